/- Part 16 of what the row leans on: abstract values and states, their rules, and the contracts of the functions. -/
import Derived.Test.YtejeemhenoobjaaDoorZW1415
namespace Go.Proofs.YtejeemhenoobjaaDoor.Asl
open Go Go.RowKit
open Go.Proofs.YtejeemhenoobjaaDoor.Errs (EV)
set_option linter.unusedVariables false
set_option linter.unusedSimpArgs false
set_option maxRecDepth 100000
set_option maxHeartbeats 8000000
abbrev headT : ByteArray := ⟨#[104, 101, 97, 100]⟩
abbrev nodeT : ByteArray := ⟨#[110, 111, 100, 101]⟩
abbrev flowT : ByteArray := ⟨#[102, 108, 111, 119]⟩
/-- What is wrong, as an error. -/
def errK : TkE → Option EV
  | .ok => none
  | .at_ 0 _ c => some (.wrap headT (.code c))
  | .at_ 1 _ c => some (.wrap (nodeT ++ ⟨#[115]⟩) (.code c))
  | .at_ 2 i c => some (.wrap (placeT nodeT i) (.code c))
  | .at_ 3 _ c => some (.wrap (flowT ++ ⟨#[115]⟩) (.code c))
  | .at_ _ i c => some (.wrap (placeT flowT i) (.code c))
  | .rest => some (.code 10)
@[simp] theorem toNat_3 (n : Nat) : ((n : Int) + 1 + 1 + 1).toNat = n + 1 + 1 + 1 := by omega
theorem Fin.zD {h : Hp} {s y : AV} : Fin h (.tup [.agg [s, .raw (.slice none 0 0), .raw (.slice none 0 0)], y]) h (.tup [.agg [s, .sl 8 [], .sl 4 []], y]) := Fin.imp fun C v hv => by
  cases hv with
  | tup hv => cases hv with
    | cons h0 h1 => cases h0 with
      | agg h0 => cases h0 with
        | cons a h0 => cases h0 with
          | cons b h0 => cases h0 with
            | cons c h0 => cases b with
              | one b _ => cases c with
                | one c _ =>
                  rw [RV.raw_eq b, RV.raw_eq c]
                  exact .tup (.cons (.agg (.cons a (.cons (.one .sl0 rfl) (.cons (.one .sl0 rfl) h0)))) h1)
/-- What the program reads, step by step. -/
def tkQ (l : List Int) : List NodeV × RSt × Option EV := listN nodeT 40 (sT 128 (l.drop 3, 0)).2 (atE none headT (sT 128 (l.drop 3, 0)).2.2)
def endW (nm : ByteArray) (ns : List NodeV) (f : List FlowV × RSt × Option EV) : DefV × Option EV := match f.2.2 with
  | some y => (DefV.z, some y)
  | none => if endE f.2.1.1 f.2.1.2 = 0 then (⟨nm, ns, f.1⟩, none) else (DefV.z, some (.code (endE f.2.1.1 f.2.1.2)))
def flW (q : List NodeV × RSt × Option EV) : List FlowV × RSt × Option EV := match q.2.2 with
  | none => listF flowT 80 q.2.1 none
  | some y => ([], q.2.1, some y)
def takeW (l : List Int) : DefV × Option EV := if headE l ≠ 0 then (DefV.z, some (.wrap headT (.code (headE l)))) else endW (sT 128 (l.drop 3, 0)).1 (tkQ l).1 (flW (tkQ l))
theorem c_wTake (l : List Int) (hB : IsB l) (hl : l.length ≤ 140737488351232) : CallD Tryd.prog 8 [.sl 1 (u8s l)] noHeap (.tup [defAV (takeW l).1, errO (takeW l).2]) noHeap := by
  have q := c_head l hB (by omega)
  by_cases h0 : headE l = 0
  · obtain ⟨t, rfl⟩ : ∃ t, l = magicL ++ t := ⟨_, head_0 h0⟩
    rw [h0] at q
    have hBt : IsB t := (isB_app.1 hB).2
    have htl : t.length ≤ 140737488351232 := by rw [List.length_append] at hl; omega
    have r1 := c_Read t htl
    have hat : At t 0 t := ⟨Nat.zero_le _, rfl, hBt, by omega⟩
    rw [show takeW (magicL ++ t) = endW (sT 128 (t, 0)).1 (listN nodeT 40 (sT 128 (t, 0)).2 (atE none headT (sT 128 (t, 0)).2.2)).1 (flW (listN nodeT 40 (sT 128 (t, 0)).2 (atE none headT (sT 128 (t, 0)).2.2))) from if_neg (by rw [h0]; simp)]
    rw [show u8s (magicL ++ t) = .raw (.int .u8 98) :: .raw (.int .u8 112) :: .raw (.int .u8 49) :: u8s t by simp [magicL, u8s]] at q ⊢
    obtain ⟨a1, g1, k1⟩ := c_wrtext hat 0 none
    have k2 := c_Err t a1 (sT 128 (t, 0)).2.2
    have k3 := c_fails none headT (sT 128 (t, 0)).2.2 t a1 (sT 128 (t, 0)).2.2
    obtain ⟨a2, g2, k4⟩ := c_wlistN g1 (sT 128 (t, 0)).2.2 (atE none headT (sT 128 (t, 0)).2.2) nodeT (by decide) 40 (by omega)
    clear hB hl h0 hat
    generalize sT 128 (t, 0) = s1 at *
    obtain ⟨nm, l1, e1⟩ := s1
    simp only at *
    generalize atE none headT e1 = x1 at *
    generalize listN nodeT 40 (l1, e1) x1 = Q1 at *
    obtain ⟨ns, ⟨l2, e2⟩, x2⟩ := Q1
    simp only at *
    refine zzg (nt := 75) (rs := [.cell 2 25, .tmp 3]) Tryd.func8 ?_; intro Q hQ hW
    repeat' (first
 | (with_reducible refine run_n ?_; with_reducible first | refine hK _ _ (by simp) ?_ | refine hK _ _ ?_; clear hK K)
 | (refine zzc ?_)
 | (with_reducible refine awp_regT (by kernel_rfl) ?_; intro K hK)
 | (with_reducible refine awp_regAM (id := 11) [(48, some 20), (52, some 20)] mixed (by kernel_rfl) (by kernel_rfl) ?_; intro K hK)
 | (with_reducible first | refine a_move (hr:=?_) | refine a_assign (hr:=?_) | refine a_load (hr:=?_) | refine a_fieldAddr (hr:=?_) | refine a_nilCheck (hr:=?_) | refine a_bin (hr:=?_) | refine a_pick (hr:=?_) | refine a_store (hr:=?_) | refine a_box (hr:=?_) | refine a_alloc (hr:=?_) | refine a_makeIf (hr:=?_) | refine a_makeFunc (hr:=?_) | refine a_eqI (hr:=?_) | refine a_neI (hr:=?_) | refine a_eqB (hr:=?_) | refine a_neB (hr:=?_) | refine a_sliceArr (hr:=?_) | refine a_eqS (hr:=?_) | refine a_neS (hr:=?_) | refine a_sliceS (hr:=?_) | refine a_sliceR (hr:=?_) | refine a_build (hr:=?_) | refine a_buildSlice (hr:=?_) | refine a_callF (hcall := q) (hr:=?_) | refine a_callB (hcall := r1) (hr:=?_) | refine a_gT (hr:=?_) | refine a_gF (hr:=?_) | refine a_gU (hr:=?_))
 | (with_reducible refine a_gB (hT := ?_) (hF := ?_) <;> intro hb <;> (try simp at hb) <;> (try contradiction) <;> (try subst hb) <;> (try omega))
 | fail)
    refine a_cond (ht := ?_) (hf := ?_) <;> intro hb <;> (try simp at hb) <;> (try contradiction) <;> (try omega)
    repeat' (first
 | (with_reducible refine run_n ?_; with_reducible first | refine hK _ _ (by simp) ?_ | refine hK _ _ ?_; clear hK K)
 | (refine zzc ?_)
 | (with_reducible refine a_cond (ht := ?_) (hf := ?_) <;> intro hb <;> (try simp at hb) <;> (try contradiction) <;> (try subst hb) <;> (try omega))
 | (with_reducible first | refine a_move (hr:=?_) | refine a_assign (hr:=?_) | refine a_load (hr:=?_) | refine a_fieldAddr (hr:=?_) | refine a_nilCheck (hr:=?_) | refine a_bin (hr:=?_) | refine a_pick (hr:=?_) | refine a_store (hr:=?_) | refine a_box (hr:=?_) | refine a_alloc (hr:=?_) | refine a_makeIf (hr:=?_) | refine a_makeFunc (hr:=?_) | refine a_eqI (hr:=?_) | refine a_neI (hr:=?_) | refine a_eqB (hr:=?_) | refine a_neB (hr:=?_) | refine a_sliceArr (hr:=?_) | refine a_eqS (hr:=?_) | refine a_neS (hr:=?_) | refine a_sliceS (hr:=?_) | refine a_sliceR (hr:=?_) | refine a_build (hr:=?_) | refine a_buildSlice (hr:=?_) | refine a_gT (hr:=?_) | refine a_gF (hr:=?_) | refine a_gU (hr:=?_))
 | (with_reducible refine a_gB (hT := ?_) (hF := ?_) <;> intro hb <;> (try simp at hb) <;> (try contradiction) <;> (try subst hb) <;> (try omega))
 | fail)
    (with_reducible refine awp_regT (by kernel_rfl) ?_; intro K hK)
    repeat' (first
 | (with_reducible refine run_n ?_; with_reducible first | refine hK _ _ (by simp) ?_ | refine hK _ _ ?_; clear hK K)
 | (refine zzc ?_)
 | (with_reducible refine a_cond (ht := ?_) (hf := ?_) <;> intro hb <;> (try simp at hb) <;> (try contradiction) <;> (try subst hb) <;> (try omega))
 | (with_reducible first | refine a_move (hr:=?_) | refine a_assign (hr:=?_) | refine a_load (hr:=?_) | refine a_fieldAddr (hr:=?_) | refine a_nilCheck (hr:=?_) | refine a_bin (hr:=?_) | refine a_pick (hr:=?_) | refine a_store (hr:=?_) | refine a_box (hr:=?_) | refine a_alloc (hr:=?_) | refine a_makeIf (hr:=?_) | refine a_makeFunc (hr:=?_) | refine a_eqI (hr:=?_) | refine a_neI (hr:=?_) | refine a_eqB (hr:=?_) | refine a_neB (hr:=?_) | refine a_sliceArr (hr:=?_) | refine a_eqS (hr:=?_) | refine a_neS (hr:=?_) | refine a_sliceS (hr:=?_) | refine a_sliceR (hr:=?_) | refine a_build (hr:=?_) | refine a_buildSlice (hr:=?_) | refine a_callB (hcall := r1) (hr:=?_) | refine a_gT (hr:=?_) | refine a_gF (hr:=?_) | refine a_gU (hr:=?_))
 | (with_reducible refine a_gB (hT := ?_) (hF := ?_) <;> intro hb <;> (try simp at hb) <;> (try contradiction) <;> (try subst hb) <;> (try omega))
 | fail)
    refine AWP.weak (σ2 := ⟨envA [(2, .ptr 2 0), (3, .raw .nilIface), (5, .ptr 90001 0)], hpL [(2, .box (.agg [.raw (.string ⟨#[]⟩), .raw (.slice none 0 0), .raw (.slice none 0 0)])), (18, .box (rdAV t 0 0)), (90001, .box (.agg [.ptr 18 0, .raw .nilIface]))]⟩) (zzx 20 90001) ?_
    cases x2 with
    | some y =>
      repeat' (first
 | (with_reducible refine run_n ?_; with_reducible first | refine hK _ _ (by simp) ?_ | refine hK _ _ ?_; clear hK K)
 | (refine zzc ?_)
 | (with_reducible refine awp_regT (by kernel_rfl) ?_; intro K hK)
 | (with_reducible refine awp_regAM (id := 11) [(48, some 90001), (52, some 90001)] mixed (by kernel_rfl) (by kernel_rfl) ?_; intro K hK)
 | (with_reducible first | refine a_move (hr:=?_) | refine a_assign (hr:=?_) | refine a_load (hr:=?_) | refine a_fieldAddr (hr:=?_) | refine a_nilCheck (hr:=?_) | refine a_bin (hr:=?_) | refine a_pick (hr:=?_) | refine a_store (hr:=?_) | refine a_box (hr:=?_) | refine a_alloc (hr:=?_) | refine a_makeIf (hr:=?_) | refine a_makeFunc (hr:=?_) | refine a_eqI (hr:=?_) | refine a_neI (hr:=?_) | refine a_eqB (hr:=?_) | refine a_neB (hr:=?_) | refine a_sliceArr (hr:=?_) | refine a_eqS (hr:=?_) | refine a_neS (hr:=?_) | refine a_sliceS (hr:=?_) | refine a_sliceR (hr:=?_) | refine a_build (hr:=?_) | refine a_buildSlice (hr:=?_) | refine a_callM (p := 90001) (k := 100000) (q := 18) (hcall := k1) (hr:=?_) | refine a_callP (p := 18) (hcall := k2) (hr:=?_) | refine a_callM (p := 90001) (k := 100000) (q := 18) (hcall := k3) (hr:=?_) | refine a_callM (p := 90001) (k := 100000) (q := 18) (hcall := k4) (hr:=?_) | refine a_gT (hr:=?_) | refine a_gF (hr:=?_) | refine a_gU (hr:=?_))
 | (with_reducible refine a_gB (hT := ?_) (hF := ?_) <;> intro hb <;> (try simp at hb) <;> (try contradiction) <;> (try subst hb) <;> (try omega))
 | fail)
      have k6 := c_End t a2 e2 (by omega) g2.le
      rw [g2.eq] at k6
      have q5 := c_FOf (endE l2 e2)
      have q6 := c_FFirst [some y, ofE (endE l2 e2)] (by simp)
      have q7 := c_IsCode y 10
      generalize ofE (endE l2 e2) = o at q5 q6
      generalize endE l2 e2 = ee at k6 q5
      simp only [errO_some, List.map_cons, List.map_nil, firstE] at q6
      simp only [flW, endW, errO_some] at hQ ⊢
      refine a_cond (ht := ?_) (hf := ?_) <;> intro hb <;> (try simp at hb) <;> (try contradiction) <;> (try omega)
      repeat' (first
 | (with_reducible refine run_n ?_; with_reducible first | refine hK _ _ (by simp) ?_ | refine hK _ _ ?_; clear hK K)
 | (refine zzc ?_)
 | (with_reducible refine a_cond (ht := ?_) (hf := ?_) <;> intro hb <;> (try simp at hb) <;> (try contradiction) <;> (try subst hb) <;> (try omega))
 | (with_reducible first | refine a_move (hr:=?_) | refine a_assign (hr:=?_) | refine a_load (hr:=?_) | refine a_fieldAddr (hr:=?_) | refine a_nilCheck (hr:=?_) | refine a_bin (hr:=?_) | refine a_pick (hr:=?_) | refine a_store (hr:=?_) | refine a_box (hr:=?_) | refine a_alloc (hr:=?_) | refine a_makeIf (hr:=?_) | refine a_makeFunc (hr:=?_) | refine a_eqI (hr:=?_) | refine a_neI (hr:=?_) | refine a_eqB (hr:=?_) | refine a_neB (hr:=?_) | refine a_sliceArr (hr:=?_) | refine a_eqS (hr:=?_) | refine a_neS (hr:=?_) | refine a_sliceS (hr:=?_) | refine a_sliceR (hr:=?_) | refine a_build (hr:=?_) | refine a_buildSlice (hr:=?_) | refine a_gT (hr:=?_) | refine a_gF (hr:=?_) | refine a_gU (hr:=?_))
 | (with_reducible refine a_gB (hT := ?_) (hF := ?_) <;> intro hb <;> (try simp at hb) <;> (try contradiction) <;> (try subst hb) <;> (try omega))
 | fail)
      refine AWP.weak (σ2 := ⟨envA [(2, .ptr 2 0), (3, .raw .nilIface), (5, .ptr 20 0), (6, .ptr 6 0)], hpL [(2, .box (.agg [.raw (.string ⟨#[]⟩), .raw (.slice none 0 0), .raw (.slice none 0 0)])), (6, .box (.agg [.raw (.string nm), .sl 8 (ns.map nodeAV), .raw (.slice none 0 0)])), (18, .box (rdAV t a2 e2)), (20, .box (.agg [.ptr 18 0, errAV y]))]⟩) (zzx 20 90001) ?_
      by_cases hy : y.num = some 10
      · rw [decide_eq_true hy] at q7
        repeat' (first
 | (with_reducible refine run_n ?_; with_reducible first | refine hK _ _ (by simp) ?_ | refine hK _ _ ?_; clear hK K)
 | (refine zzc ?_)
 | (with_reducible refine awp_regT (by kernel_rfl) ?_; intro K hK)
 | (with_reducible refine awp_regCM (id := 11) [(48, some 20), (52, some 20)] [(48, some 20), (52, some 20), (53, some 18), (54, none)] mixed (by kernel_rfl) (by kernel_rfl) (by kernel_rfl) ?_; intro K hK)
 | (with_reducible refine a_cond (ht := ?_) (hf := ?_) <;> intro hb <;> (try simp at hb) <;> (try contradiction) <;> (try subst hb) <;> (try omega))
 | (with_reducible first | refine a_move (hr:=?_) | refine a_assign (hr:=?_) | refine a_load (hr:=?_) | refine a_fieldAddr (hr:=?_) | refine a_nilCheck (hr:=?_) | refine a_bin (hr:=?_) | refine a_pick (hr:=?_) | refine a_store (hr:=?_) | refine a_box (hr:=?_) | refine a_alloc (hr:=?_) | refine a_makeIf (hr:=?_) | refine a_makeFunc (hr:=?_) | refine a_eqI (hr:=?_) | refine a_neI (hr:=?_) | refine a_eqB (hr:=?_) | refine a_neB (hr:=?_) | refine a_sliceArr (hr:=?_) | refine a_eqS (hr:=?_) | refine a_neS (hr:=?_) | refine a_sliceS (hr:=?_) | refine a_sliceR (hr:=?_) | refine a_build (hr:=?_) | refine a_buildSlice (hr:=?_) | refine a_callP (p := 18) (hcall := k6) (hr:=?_) | refine a_call0 (hcall := q5) (hr:=?_) | refine a_callF (hcall := q6) (hr:=?_) | refine a_callF (hcall := q7) (hr:=?_) | refine a_gT (hr:=?_) | refine a_gF (hr:=?_) | refine a_gU (hr:=?_))
 | (with_reducible refine a_gB (hT := ?_) (hF := ?_) <;> intro hb <;> (try simp at hb) <;> (try contradiction) <;> (try subst hb) <;> (try omega))
 | fail)
        all_goals ((refine zzr hQ ?_))
        all_goals (exact (Fin.drop (by simp; exact .r) (by simp)).trans Fin.zD)
      · rw [decide_eq_false hy] at q7
        repeat' (first
 | (with_reducible refine run_n ?_; with_reducible first | refine hK _ _ (by simp) ?_ | refine hK _ _ ?_; clear hK K)
 | (refine zzc ?_)
 | (with_reducible refine awp_regT (by kernel_rfl) ?_; intro K hK)
 | (with_reducible refine awp_regCM (id := 11) [(48, some 20), (52, some 20)] [(48, some 20), (52, some 20), (53, some 18), (54, none)] mixed (by kernel_rfl) (by kernel_rfl) (by kernel_rfl) ?_; intro K hK)
 | (with_reducible refine a_cond (ht := ?_) (hf := ?_) <;> intro hb <;> (try simp at hb) <;> (try contradiction) <;> (try subst hb) <;> (try omega))
 | (with_reducible first | refine a_move (hr:=?_) | refine a_assign (hr:=?_) | refine a_load (hr:=?_) | refine a_fieldAddr (hr:=?_) | refine a_nilCheck (hr:=?_) | refine a_bin (hr:=?_) | refine a_pick (hr:=?_) | refine a_store (hr:=?_) | refine a_box (hr:=?_) | refine a_alloc (hr:=?_) | refine a_makeIf (hr:=?_) | refine a_makeFunc (hr:=?_) | refine a_eqI (hr:=?_) | refine a_neI (hr:=?_) | refine a_eqB (hr:=?_) | refine a_neB (hr:=?_) | refine a_sliceArr (hr:=?_) | refine a_eqS (hr:=?_) | refine a_neS (hr:=?_) | refine a_sliceS (hr:=?_) | refine a_sliceR (hr:=?_) | refine a_build (hr:=?_) | refine a_buildSlice (hr:=?_) | refine a_callP (p := 18) (hcall := k6) (hr:=?_) | refine a_call0 (hcall := q5) (hr:=?_) | refine a_callF (hcall := q6) (hr:=?_) | refine a_callF (hcall := q7) (hr:=?_) | refine a_gT (hr:=?_) | refine a_gF (hr:=?_) | refine a_gU (hr:=?_))
 | (with_reducible refine a_gB (hT := ?_) (hF := ?_) <;> intro hb <;> (try simp at hb) <;> (try contradiction) <;> (try subst hb) <;> (try omega))
 | fail)
        all_goals ((refine zzr hQ ?_))
        all_goals (exact (Fin.drop (by simp; exact .r) (by simp)).trans Fin.zD)
    | none =>
      obtain ⟨a3, g3, k5⟩ := c_wlistF g2 e2 none flowT (by decide) 80 (by omega)
      simp only [flW] at hQ
      generalize listF flowT 80 (l2, e2) none = Q2 at *
      obtain ⟨fs, ⟨l3, e3⟩, x3⟩ := Q2
      simp only at *
      have k6 := c_End t a3 e3 (by omega) g3.le
      rw [g3.eq] at k6
      have q5 := c_FOf (endE l3 e3)
      cases x3 with
      | some y =>
        have q6 := c_FFirst [some y, ofE (endE l3 e3)] (by simp)
        have q7 := c_IsCode y 10
        generalize ofE (endE l3 e3) = o at q5 q6
        generalize endE l3 e3 = ee at k6 q5
        simp only [errO_some, List.map_cons, List.map_nil, firstE] at q6
        simp only [endW, errO_some] at hQ ⊢
        repeat' (first
 | (with_reducible refine run_n ?_; with_reducible first | refine hK _ _ (by simp) ?_ | refine hK _ _ ?_; clear hK K)
 | (refine zzc ?_)
 | (with_reducible refine awp_regT (by kernel_rfl) ?_; intro K hK)
 | (with_reducible refine awp_regAM (id := 11) [(48, some 90001), (52, some 90001)] mixed (by kernel_rfl) (by kernel_rfl) ?_; intro K hK)
 | (with_reducible first | refine a_move (hr:=?_) | refine a_assign (hr:=?_) | refine a_load (hr:=?_) | refine a_fieldAddr (hr:=?_) | refine a_nilCheck (hr:=?_) | refine a_bin (hr:=?_) | refine a_pick (hr:=?_) | refine a_store (hr:=?_) | refine a_box (hr:=?_) | refine a_alloc (hr:=?_) | refine a_makeIf (hr:=?_) | refine a_makeFunc (hr:=?_) | refine a_eqI (hr:=?_) | refine a_neI (hr:=?_) | refine a_eqB (hr:=?_) | refine a_neB (hr:=?_) | refine a_sliceArr (hr:=?_) | refine a_eqS (hr:=?_) | refine a_neS (hr:=?_) | refine a_sliceS (hr:=?_) | refine a_sliceR (hr:=?_) | refine a_build (hr:=?_) | refine a_buildSlice (hr:=?_) | refine a_callM (p := 90001) (k := 100000) (q := 18) (hcall := k1) (hr:=?_) | refine a_callP (p := 18) (hcall := k2) (hr:=?_) | refine a_callM (p := 90001) (k := 100000) (q := 18) (hcall := k3) (hr:=?_) | refine a_callM (p := 90001) (k := 100000) (q := 18) (hcall := k4) (hr:=?_) | refine a_gT (hr:=?_) | refine a_gF (hr:=?_) | refine a_gU (hr:=?_))
 | (with_reducible refine a_gB (hT := ?_) (hF := ?_) <;> intro hb <;> (try simp at hb) <;> (try contradiction) <;> (try subst hb) <;> (try omega))
 | fail)
        refine a_cond (ht := ?_) (hf := ?_) <;> intro hb <;> (try simp at hb) <;> (try contradiction) <;> (try omega)
        repeat' (first
 | (with_reducible refine run_n ?_; with_reducible first | refine hK _ _ (by simp) ?_ | refine hK _ _ ?_; clear hK K)
 | (refine zzc ?_)
 | (with_reducible refine a_cond (ht := ?_) (hf := ?_) <;> intro hb <;> (try simp at hb) <;> (try contradiction) <;> (try subst hb) <;> (try omega))
 | (with_reducible first | refine a_move (hr:=?_) | refine a_assign (hr:=?_) | refine a_load (hr:=?_) | refine a_fieldAddr (hr:=?_) | refine a_nilCheck (hr:=?_) | refine a_bin (hr:=?_) | refine a_pick (hr:=?_) | refine a_store (hr:=?_) | refine a_box (hr:=?_) | refine a_alloc (hr:=?_) | refine a_makeIf (hr:=?_) | refine a_makeFunc (hr:=?_) | refine a_eqI (hr:=?_) | refine a_neI (hr:=?_) | refine a_eqB (hr:=?_) | refine a_neB (hr:=?_) | refine a_sliceArr (hr:=?_) | refine a_eqS (hr:=?_) | refine a_neS (hr:=?_) | refine a_sliceS (hr:=?_) | refine a_sliceR (hr:=?_) | refine a_build (hr:=?_) | refine a_buildSlice (hr:=?_) | refine a_gT (hr:=?_) | refine a_gF (hr:=?_) | refine a_gU (hr:=?_))
 | (with_reducible refine a_gB (hT := ?_) (hF := ?_) <;> intro hb <;> (try simp at hb) <;> (try contradiction) <;> (try subst hb) <;> (try omega))
 | fail)
        (with_reducible refine awp_regT (by kernel_rfl) ?_; intro K hK)
        repeat' (first
 | (with_reducible refine run_n ?_; with_reducible first | refine hK _ _ (by simp) ?_ | refine hK _ _ ?_; clear hK K)
 | (refine zzc ?_)
 | (with_reducible refine a_cond (ht := ?_) (hf := ?_) <;> intro hb <;> (try simp at hb) <;> (try contradiction) <;> (try subst hb) <;> (try omega))
 | (with_reducible first | refine a_move (hr:=?_) | refine a_assign (hr:=?_) | refine a_load (hr:=?_) | refine a_fieldAddr (hr:=?_) | refine a_nilCheck (hr:=?_) | refine a_bin (hr:=?_) | refine a_pick (hr:=?_) | refine a_store (hr:=?_) | refine a_box (hr:=?_) | refine a_alloc (hr:=?_) | refine a_makeIf (hr:=?_) | refine a_makeFunc (hr:=?_) | refine a_eqI (hr:=?_) | refine a_neI (hr:=?_) | refine a_eqB (hr:=?_) | refine a_neB (hr:=?_) | refine a_sliceArr (hr:=?_) | refine a_eqS (hr:=?_) | refine a_neS (hr:=?_) | refine a_sliceS (hr:=?_) | refine a_sliceR (hr:=?_) | refine a_build (hr:=?_) | refine a_buildSlice (hr:=?_) | refine a_callM (p := 90001) (k := 100000) (q := 18) (hcall := k5) (hr:=?_) | refine a_gT (hr:=?_) | refine a_gF (hr:=?_) | refine a_gU (hr:=?_))
 | (with_reducible refine a_gB (hT := ?_) (hF := ?_) <;> intro hb <;> (try simp at hb) <;> (try contradiction) <;> (try subst hb) <;> (try omega))
 | fail)
        refine AWP.weak (σ2 := ⟨envA [(2, .ptr 2 0), (3, .raw .nilIface), (5, .ptr 20 0), (6, .ptr 6 0)], hpL [(2, .box (.agg [.raw (.string ⟨#[]⟩), .raw (.slice none 0 0), .raw (.slice none 0 0)])), (6, .box (.agg [.raw (.string nm), .sl 8 (ns.map nodeAV), .sl 4 (fs.map flowAV)])), (18, .box (rdAV t a3 e3)), (20, .box (.agg [.ptr 18 0, errAV y]))]⟩) (zzx 20 90001) ?_
        by_cases hy : y.num = some 10
        · rw [decide_eq_true hy] at q7
          repeat' (first
 | (with_reducible refine run_n ?_; with_reducible first | refine hK _ _ (by simp) ?_ | refine hK _ _ ?_; clear hK K)
 | (refine zzc ?_)
 | (with_reducible refine awp_regT (by kernel_rfl) ?_; intro K hK)
 | (with_reducible refine awp_regCM (id := 11) [(48, some 20), (52, some 20)] [(48, some 20), (52, some 20), (53, some 18), (54, none)] mixed (by kernel_rfl) (by kernel_rfl) (by kernel_rfl) ?_; intro K hK)
 | (with_reducible refine a_cond (ht := ?_) (hf := ?_) <;> intro hb <;> (try simp at hb) <;> (try contradiction) <;> (try subst hb) <;> (try omega))
 | (with_reducible first | refine a_move (hr:=?_) | refine a_assign (hr:=?_) | refine a_load (hr:=?_) | refine a_fieldAddr (hr:=?_) | refine a_nilCheck (hr:=?_) | refine a_bin (hr:=?_) | refine a_pick (hr:=?_) | refine a_store (hr:=?_) | refine a_box (hr:=?_) | refine a_alloc (hr:=?_) | refine a_makeIf (hr:=?_) | refine a_makeFunc (hr:=?_) | refine a_eqI (hr:=?_) | refine a_neI (hr:=?_) | refine a_eqB (hr:=?_) | refine a_neB (hr:=?_) | refine a_sliceArr (hr:=?_) | refine a_eqS (hr:=?_) | refine a_neS (hr:=?_) | refine a_sliceS (hr:=?_) | refine a_sliceR (hr:=?_) | refine a_build (hr:=?_) | refine a_buildSlice (hr:=?_) | refine a_callP (p := 18) (hcall := k6) (hr:=?_) | refine a_call0 (hcall := q5) (hr:=?_) | refine a_callF (hcall := q6) (hr:=?_) | refine a_callF (hcall := q7) (hr:=?_) | refine a_gT (hr:=?_) | refine a_gF (hr:=?_) | refine a_gU (hr:=?_))
 | (with_reducible refine a_gB (hT := ?_) (hF := ?_) <;> intro hb <;> (try simp at hb) <;> (try contradiction) <;> (try subst hb) <;> (try omega))
 | fail)
          all_goals ((refine zzr hQ ?_))
          all_goals (exact (Fin.drop (by simp; exact .r) (by simp)).trans Fin.zD)
        · rw [decide_eq_false hy] at q7
          repeat' (first
 | (with_reducible refine run_n ?_; with_reducible first | refine hK _ _ (by simp) ?_ | refine hK _ _ ?_; clear hK K)
 | (refine zzc ?_)
 | (with_reducible refine awp_regT (by kernel_rfl) ?_; intro K hK)
 | (with_reducible refine awp_regCM (id := 11) [(48, some 20), (52, some 20)] [(48, some 20), (52, some 20), (53, some 18), (54, none)] mixed (by kernel_rfl) (by kernel_rfl) (by kernel_rfl) ?_; intro K hK)
 | (with_reducible refine a_cond (ht := ?_) (hf := ?_) <;> intro hb <;> (try simp at hb) <;> (try contradiction) <;> (try subst hb) <;> (try omega))
 | (with_reducible first | refine a_move (hr:=?_) | refine a_assign (hr:=?_) | refine a_load (hr:=?_) | refine a_fieldAddr (hr:=?_) | refine a_nilCheck (hr:=?_) | refine a_bin (hr:=?_) | refine a_pick (hr:=?_) | refine a_store (hr:=?_) | refine a_box (hr:=?_) | refine a_alloc (hr:=?_) | refine a_makeIf (hr:=?_) | refine a_makeFunc (hr:=?_) | refine a_eqI (hr:=?_) | refine a_neI (hr:=?_) | refine a_eqB (hr:=?_) | refine a_neB (hr:=?_) | refine a_sliceArr (hr:=?_) | refine a_eqS (hr:=?_) | refine a_neS (hr:=?_) | refine a_sliceS (hr:=?_) | refine a_sliceR (hr:=?_) | refine a_build (hr:=?_) | refine a_buildSlice (hr:=?_) | refine a_callP (p := 18) (hcall := k6) (hr:=?_) | refine a_call0 (hcall := q5) (hr:=?_) | refine a_callF (hcall := q6) (hr:=?_) | refine a_callF (hcall := q7) (hr:=?_) | refine a_gT (hr:=?_) | refine a_gF (hr:=?_) | refine a_gU (hr:=?_))
 | (with_reducible refine a_gB (hT := ?_) (hF := ?_) <;> intro hb <;> (try simp at hb) <;> (try contradiction) <;> (try subst hb) <;> (try omega))
 | fail)
          all_goals ((refine zzr hQ ?_))
          all_goals (exact (Fin.drop (by simp; exact .r) (by simp)).trans Fin.zD)
      | none =>
        have q6 := c_FFirst [none, ofE (endE l3 e3)] (by simp)
        have q7 := c_IsCode (.code (endE l3 e3)) 10
        have q8 := c_FOf 10
        rw [show ofE 10 = some (.code 10) from rfl] at q8
        simp only [endW] at hQ
        repeat' (first
 | (with_reducible refine run_n ?_; with_reducible first | refine hK _ _ (by simp) ?_ | refine hK _ _ ?_; clear hK K)
 | (refine zzc ?_)
 | (with_reducible refine awp_regT (by kernel_rfl) ?_; intro K hK)
 | (with_reducible refine awp_regAM (id := 11) [(48, some 90001), (52, some 90001)] mixed (by kernel_rfl) (by kernel_rfl) ?_; intro K hK)
 | (with_reducible first | refine a_move (hr:=?_) | refine a_assign (hr:=?_) | refine a_load (hr:=?_) | refine a_fieldAddr (hr:=?_) | refine a_nilCheck (hr:=?_) | refine a_bin (hr:=?_) | refine a_pick (hr:=?_) | refine a_store (hr:=?_) | refine a_box (hr:=?_) | refine a_alloc (hr:=?_) | refine a_makeIf (hr:=?_) | refine a_makeFunc (hr:=?_) | refine a_eqI (hr:=?_) | refine a_neI (hr:=?_) | refine a_eqB (hr:=?_) | refine a_neB (hr:=?_) | refine a_sliceArr (hr:=?_) | refine a_eqS (hr:=?_) | refine a_neS (hr:=?_) | refine a_sliceS (hr:=?_) | refine a_sliceR (hr:=?_) | refine a_build (hr:=?_) | refine a_buildSlice (hr:=?_) | refine a_callM (p := 90001) (k := 100000) (q := 18) (hcall := k1) (hr:=?_) | refine a_callP (p := 18) (hcall := k2) (hr:=?_) | refine a_callM (p := 90001) (k := 100000) (q := 18) (hcall := k3) (hr:=?_) | refine a_callM (p := 90001) (k := 100000) (q := 18) (hcall := k4) (hr:=?_) | refine a_gT (hr:=?_) | refine a_gF (hr:=?_) | refine a_gU (hr:=?_))
 | (with_reducible refine a_gB (hT := ?_) (hF := ?_) <;> intro hb <;> (try simp at hb) <;> (try contradiction) <;> (try subst hb) <;> (try omega))
 | fail)
        refine a_cond (ht := ?_) (hf := ?_) <;> intro hb <;> (try simp at hb) <;> (try contradiction) <;> (try omega)
        repeat' (first
 | (with_reducible refine run_n ?_; with_reducible first | refine hK _ _ (by simp) ?_ | refine hK _ _ ?_; clear hK K)
 | (refine zzc ?_)
 | (with_reducible refine a_cond (ht := ?_) (hf := ?_) <;> intro hb <;> (try simp at hb) <;> (try contradiction) <;> (try subst hb) <;> (try omega))
 | (with_reducible first | refine a_move (hr:=?_) | refine a_assign (hr:=?_) | refine a_load (hr:=?_) | refine a_fieldAddr (hr:=?_) | refine a_nilCheck (hr:=?_) | refine a_bin (hr:=?_) | refine a_pick (hr:=?_) | refine a_store (hr:=?_) | refine a_box (hr:=?_) | refine a_alloc (hr:=?_) | refine a_makeIf (hr:=?_) | refine a_makeFunc (hr:=?_) | refine a_eqI (hr:=?_) | refine a_neI (hr:=?_) | refine a_eqB (hr:=?_) | refine a_neB (hr:=?_) | refine a_sliceArr (hr:=?_) | refine a_eqS (hr:=?_) | refine a_neS (hr:=?_) | refine a_sliceS (hr:=?_) | refine a_sliceR (hr:=?_) | refine a_build (hr:=?_) | refine a_buildSlice (hr:=?_) | refine a_gT (hr:=?_) | refine a_gF (hr:=?_) | refine a_gU (hr:=?_))
 | (with_reducible refine a_gB (hT := ?_) (hF := ?_) <;> intro hb <;> (try simp at hb) <;> (try contradiction) <;> (try subst hb) <;> (try omega))
 | fail)
        (with_reducible refine awp_regT (by kernel_rfl) ?_; intro K hK)
        repeat' (first
 | (with_reducible refine run_n ?_; with_reducible first | refine hK _ _ (by simp) ?_ | refine hK _ _ ?_; clear hK K)
 | (refine zzc ?_)
 | (with_reducible refine a_cond (ht := ?_) (hf := ?_) <;> intro hb <;> (try simp at hb) <;> (try contradiction) <;> (try subst hb) <;> (try omega))
 | (with_reducible first | refine a_move (hr:=?_) | refine a_assign (hr:=?_) | refine a_load (hr:=?_) | refine a_fieldAddr (hr:=?_) | refine a_nilCheck (hr:=?_) | refine a_bin (hr:=?_) | refine a_pick (hr:=?_) | refine a_store (hr:=?_) | refine a_box (hr:=?_) | refine a_alloc (hr:=?_) | refine a_makeIf (hr:=?_) | refine a_makeFunc (hr:=?_) | refine a_eqI (hr:=?_) | refine a_neI (hr:=?_) | refine a_eqB (hr:=?_) | refine a_neB (hr:=?_) | refine a_sliceArr (hr:=?_) | refine a_eqS (hr:=?_) | refine a_neS (hr:=?_) | refine a_sliceS (hr:=?_) | refine a_sliceR (hr:=?_) | refine a_build (hr:=?_) | refine a_buildSlice (hr:=?_) | refine a_callM (p := 90001) (k := 100000) (q := 18) (hcall := k5) (hr:=?_) | refine a_gT (hr:=?_) | refine a_gF (hr:=?_) | refine a_gU (hr:=?_))
 | (with_reducible refine a_gB (hT := ?_) (hF := ?_) <;> intro hb <;> (try simp at hb) <;> (try contradiction) <;> (try subst hb) <;> (try omega))
 | fail)
        refine AWP.weak (σ2 := ⟨envA [(2, .ptr 2 0), (3, .raw .nilIface), (5, .ptr 20 0), (6, .ptr 6 0)], hpL [(2, .box (.agg [.raw (.string ⟨#[]⟩), .raw (.slice none 0 0), .raw (.slice none 0 0)])), (6, .box (.agg [.raw (.string nm), .sl 8 (ns.map nodeAV), .sl 4 (fs.map flowAV)])), (18, .box (rdAV t a3 e3)), (20, .box (.agg [.ptr 18 0, .raw .nilIface]))]⟩) (zzx 20 90001) ?_
        generalize endE l3 e3 = ee at *
        by_cases h0 : ee = 0
        · subst h0
          rw [show ofE 0 = none from rfl] at q5 q6
          simp only [errO_none, List.map_cons, List.map_nil, firstE, if_true] at q5 q6 hQ
          repeat' (first
 | (with_reducible refine run_n ?_; with_reducible first | refine hK _ _ (by simp) ?_ | refine hK _ _ ?_; clear hK K)
 | (refine zzc ?_)
 | (with_reducible refine awp_regT (by kernel_rfl) ?_; intro K hK)
 | (with_reducible refine awp_regCM (id := 11) [(48, some 20), (52, some 20)] [(48, some 20), (52, some 20), (53, some 18), (54, none)] mixed (by kernel_rfl) (by kernel_rfl) (by kernel_rfl) ?_; intro K hK)
 | (with_reducible refine a_cond (ht := ?_) (hf := ?_) <;> intro hb <;> (try simp at hb) <;> (try contradiction) <;> (try subst hb) <;> (try omega))
 | (with_reducible first | refine a_move (hr:=?_) | refine a_assign (hr:=?_) | refine a_load (hr:=?_) | refine a_fieldAddr (hr:=?_) | refine a_nilCheck (hr:=?_) | refine a_bin (hr:=?_) | refine a_pick (hr:=?_) | refine a_store (hr:=?_) | refine a_box (hr:=?_) | refine a_alloc (hr:=?_) | refine a_makeIf (hr:=?_) | refine a_makeFunc (hr:=?_) | refine a_eqI (hr:=?_) | refine a_neI (hr:=?_) | refine a_eqB (hr:=?_) | refine a_neB (hr:=?_) | refine a_sliceArr (hr:=?_) | refine a_eqS (hr:=?_) | refine a_neS (hr:=?_) | refine a_sliceS (hr:=?_) | refine a_sliceR (hr:=?_) | refine a_build (hr:=?_) | refine a_buildSlice (hr:=?_) | refine a_callP (p := 18) (hcall := k6) (hr:=?_) | refine a_call0 (hcall := q5) (hr:=?_) | refine a_callF (hcall := q6) (hr:=?_) | refine a_gT (hr:=?_) | refine a_gF (hr:=?_) | refine a_gU (hr:=?_))
 | (with_reducible refine a_gB (hT := ?_) (hF := ?_) <;> intro hb <;> (try simp at hb) <;> (try contradiction) <;> (try subst hb) <;> (try omega))
 | fail)
          all_goals ((refine zzr hQ ?_))
          all_goals (exact zzd)
        · rw [show ofE ee = some (.code ee) from if_neg h0] at q5 q6
          rw [if_neg h0] at hQ
          simp only [errO_none, errO_some, List.map_cons, List.map_nil, firstE] at q5 q6 q8 hQ
          by_cases h1 : ee = 10
          · subst h1
            rw [decide_eq_true (show (EV.code 10).num = some 10 from rfl)] at q7
            repeat' (first
 | (with_reducible refine run_n ?_; with_reducible first | refine hK _ _ (by simp) ?_ | refine hK _ _ ?_; clear hK K)
 | (refine zzc ?_)
 | (with_reducible refine awp_regT (by kernel_rfl) ?_; intro K hK)
 | (with_reducible refine awp_regCM (id := 11) [(48, some 20), (52, some 20)] [(48, some 20), (52, some 20), (53, some 18), (54, none)] mixed (by kernel_rfl) (by kernel_rfl) (by kernel_rfl) ?_; intro K hK)
 | (with_reducible refine a_cond (ht := ?_) (hf := ?_) <;> intro hb <;> (try simp at hb) <;> (try contradiction) <;> (try subst hb) <;> (try omega))
 | (with_reducible first | refine a_move (hr:=?_) | refine a_assign (hr:=?_) | refine a_load (hr:=?_) | refine a_fieldAddr (hr:=?_) | refine a_nilCheck (hr:=?_) | refine a_bin (hr:=?_) | refine a_pick (hr:=?_) | refine a_store (hr:=?_) | refine a_box (hr:=?_) | refine a_alloc (hr:=?_) | refine a_makeIf (hr:=?_) | refine a_makeFunc (hr:=?_) | refine a_eqI (hr:=?_) | refine a_neI (hr:=?_) | refine a_eqB (hr:=?_) | refine a_neB (hr:=?_) | refine a_sliceArr (hr:=?_) | refine a_eqS (hr:=?_) | refine a_neS (hr:=?_) | refine a_sliceS (hr:=?_) | refine a_sliceR (hr:=?_) | refine a_build (hr:=?_) | refine a_buildSlice (hr:=?_) | refine a_callP (p := 18) (hcall := k6) (hr:=?_) | refine a_call0 (hcall := q5) (hr:=?_) | refine a_callF (hcall := q6) (hr:=?_) | refine a_callF (hcall := q7) (hr:=?_) | refine a_call0 (hcall := q8) (hr:=?_) | refine a_gT (hr:=?_) | refine a_gF (hr:=?_) | refine a_gU (hr:=?_))
 | (with_reducible refine a_gB (hT := ?_) (hF := ?_) <;> intro hb <;> (try simp at hb) <;> (try contradiction) <;> (try subst hb) <;> (try omega))
 | fail)
            all_goals ((refine zzr hQ ?_))
            all_goals (exact (Fin.drop (by simp; exact .r) (by simp)).trans Fin.zD)
          · rw [decide_eq_false (show ¬ (EV.code ee).num = some 10 from fun h => h1 (by cases h; rfl))] at q7
            repeat' (first
 | (with_reducible refine run_n ?_; with_reducible first | refine hK _ _ (by simp) ?_ | refine hK _ _ ?_; clear hK K)
 | (refine zzc ?_)
 | (with_reducible refine awp_regT (by kernel_rfl) ?_; intro K hK)
 | (with_reducible refine awp_regCM (id := 11) [(48, some 20), (52, some 20)] [(48, some 20), (52, some 20), (53, some 18), (54, none)] mixed (by kernel_rfl) (by kernel_rfl) (by kernel_rfl) ?_; intro K hK)
 | (with_reducible refine a_cond (ht := ?_) (hf := ?_) <;> intro hb <;> (try simp at hb) <;> (try contradiction) <;> (try subst hb) <;> (try omega))
 | (with_reducible first | refine a_move (hr:=?_) | refine a_assign (hr:=?_) | refine a_load (hr:=?_) | refine a_fieldAddr (hr:=?_) | refine a_nilCheck (hr:=?_) | refine a_bin (hr:=?_) | refine a_pick (hr:=?_) | refine a_store (hr:=?_) | refine a_box (hr:=?_) | refine a_alloc (hr:=?_) | refine a_makeIf (hr:=?_) | refine a_makeFunc (hr:=?_) | refine a_eqI (hr:=?_) | refine a_neI (hr:=?_) | refine a_eqB (hr:=?_) | refine a_neB (hr:=?_) | refine a_sliceArr (hr:=?_) | refine a_eqS (hr:=?_) | refine a_neS (hr:=?_) | refine a_sliceS (hr:=?_) | refine a_sliceR (hr:=?_) | refine a_build (hr:=?_) | refine a_buildSlice (hr:=?_) | refine a_callP (p := 18) (hcall := k6) (hr:=?_) | refine a_call0 (hcall := q5) (hr:=?_) | refine a_callF (hcall := q6) (hr:=?_) | refine a_callF (hcall := q7) (hr:=?_) | refine a_call0 (hcall := q8) (hr:=?_) | refine a_gT (hr:=?_) | refine a_gF (hr:=?_) | refine a_gU (hr:=?_))
 | (with_reducible refine a_gB (hT := ?_) (hF := ?_) <;> intro hb <;> (try simp at hb) <;> (try contradiction) <;> (try subst hb) <;> (try omega))
 | fail)
            all_goals ((refine zzr hQ ?_))
            all_goals (exact (Fin.drop (by simp; exact .r) (by simp)).trans Fin.zD)
  · rw [show takeW l = (DefV.z, some (.wrap headT (.code (headE l)))) from if_pos h0]
    have q1 := c_FOf (headE l)
    rw [show ofE (headE l) = some (.code (headE l)) from if_neg h0] at q1
    have q2 := c_FWrap headT (some (.code (headE l)))
    simp only [Option.map_some, errO_some] at q1 q2 ⊢
    generalize headE l = c at q q1 q2 h0 ⊢
    unfold DefV.z
    refine zzg (nt := 75) (rs := [.cell 2 25, .tmp 3]) Tryd.func8 ?_; intro Q hQ hW
    repeat' (first
 | (with_reducible refine run_n ?_; with_reducible first | refine hK _ _ (by simp) ?_ | refine hK _ _ ?_; clear hK K)
 | (refine zzc ?_)
 | (with_reducible refine awp_regT (by kernel_rfl) ?_; intro K hK)
 | (with_reducible refine awp_regAM (id := 11) [(48, some 20), (52, some 20)] mixed (by kernel_rfl) (by kernel_rfl) ?_; intro K hK)
 | (with_reducible refine a_cond (ht := ?_) (hf := ?_) <;> intro hb <;> (try simp at hb) <;> (try contradiction) <;> (try subst hb) <;> (try omega))
 | (with_reducible first | refine a_move (hr:=?_) | refine a_assign (hr:=?_) | refine a_load (hr:=?_) | refine a_fieldAddr (hr:=?_) | refine a_nilCheck (hr:=?_) | refine a_bin (hr:=?_) | refine a_pick (hr:=?_) | refine a_store (hr:=?_) | refine a_box (hr:=?_) | refine a_alloc (hr:=?_) | refine a_makeIf (hr:=?_) | refine a_makeFunc (hr:=?_) | refine a_eqI (hr:=?_) | refine a_neI (hr:=?_) | refine a_eqB (hr:=?_) | refine a_neB (hr:=?_) | refine a_sliceArr (hr:=?_) | refine a_eqS (hr:=?_) | refine a_neS (hr:=?_) | refine a_sliceS (hr:=?_) | refine a_sliceR (hr:=?_) | refine a_build (hr:=?_) | refine a_buildSlice (hr:=?_) | refine a_callF (hcall := q) (hr:=?_) | refine a_call0 (hcall := q1) (hr:=?_) | refine a_callF (hcall := q2) (hr:=?_) | refine a_gT (hr:=?_) | refine a_gF (hr:=?_) | refine a_gU (hr:=?_))
 | (with_reducible refine a_gB (hT := ?_) (hF := ?_) <;> intro hb <;> (try simp at hb) <;> (try contradiction) <;> (try subst hb) <;> (try omega))
 | fail)
    all_goals ((refine zzr hQ ?_))
    all_goals (exact (Fin.drop (by simp; exact .r) (by simp)).trans Fin.zD)
end Go.Proofs.YtejeemhenoobjaaDoor.Asl

namespace Go.Proofs.YtejeemhenoobjaaDoor.Asl
open Go Go.RowKit
open Go.Proofs.YtejeemhenoobjaaDoor.Errs (EV)
set_option linter.unusedVariables false
set_option linter.unusedSimpArgs false
set_option maxRecDepth 100000
set_option maxHeartbeats 4000000
theorem flows_e0 : ∀ (k i : Nat) (s : RSt) (out o : List FlowV) (s2 : RSt), s.2 = 0 → flowsS k i s out = (o, none, s2) → s2.2 = 0
  | 0, _, s, out, o, s2, h, e => by
    rw [flowsS] at e
    cases e; exact h
  | k + 1, i, s, out, o, s2, h, e => by
    rw [flowsS] at e
    split at e
    · cases e
    · rename_i hw
      exact flows_e0 k (i + 1) _ _ _ _ (wr_0 (by simpa using hw)).1 e
theorem atE_some (y : EV) (p : ByteArray) (c : Int) : atE (some y) p c = some y := rfl
theorem takeW_eq (l : List Int) : takeW l = ((takeD l).1, errK (takeD l).2) := by
  unfold takeW takeD
  by_cases h0 : headE l ≠ 0
  · rw [if_pos h0, if_pos h0]; rfl
  rw [if_neg h0, if_neg h0]
  unfold tkQ
  generalize sT 128 (l.drop 3, 0) = r
  obtain ⟨nm, s1⟩ := r
  simp only
  by_cases h1 : s1.2 ≠ 0
  · rw [if_pos h1, atE_none, if_neg h1]
    unfold listN
    rw [atE_some, if_neg (by simp)]
    rfl
  rw [if_neg h1, atE_none, if_pos (by simpa using h1)]
  unfold listN
  rw [atE_none]
  generalize sU 40 s1 = u
  obtain ⟨n, s2⟩ := u
  simp only
  by_cases h2 : s2.2 ≠ 0
  · rw [if_pos h2, if_neg h2, if_neg (by simp)]
    rfl
  rw [if_neg h2, if_pos (by simpa using h2)]
  try rw [if_pos rfl]
  generalize nodesS n.toNat 0 s2 [] = q
  obtain ⟨ns, eo, s3⟩ := q
  cases eo with
  | some p => rfl
  | none =>
    simp only [Option.map_none, flW]
    unfold listF
    rw [atE_none]
    generalize sU 80 s3 = v
    obtain ⟨m, s4⟩ := v
    simp only
    by_cases h3 : s4.2 ≠ 0
    · rw [if_pos h3, if_neg h3, if_neg (by simp)]
      rfl
    rw [if_neg h3, if_pos (by simpa using h3)]
    try rw [if_pos rfl]
    have hz := flows_e0 m.toNat 0 s4 []
    generalize flowsS m.toNat 0 s4 [] = w at hz ⊢
    obtain ⟨fs, fo, s5⟩ := w
    cases fo with
    | some p => rfl
    | none =>
      have h5 : s5.2 = 0 := hz _ _ (by simpa using h3) rfl
      simp only [Option.map_none, endW, endE]
      by_cases h6 : s5.1 = []
      · simp [h5, h6, errK]
      · simp [h5, h6, errK]
theorem c_wTakeD (l : List Int) (hB : IsB l) (hl : l.length ≤ 140737488351232) : CallD Tryd.prog 8 [.sl 1 (u8s l)] noHeap (.tup [defAV (takeD l).1, errO (errK (takeD l).2)]) noHeap := by
  have := c_wTake l hB hl
  rw [takeW_eq] at this
  exact this
end Go.Proofs.YtejeemhenoobjaaDoor.Asl

namespace Go.Proofs.YtejeemhenoobjaaDoor.Asl
open Go Go.RowKit
set_option linter.unusedVariables false
set_option linter.unusedSimpArgs false
set_option maxRecDepth 100000
set_option maxHeartbeats 4000000
theorem c_r14truth {l : List Int} (e : Int) (hB : IsB l) (hl : l.length ≤ 4611686018427387903) : CallD Tryd.prog 59 [.ptr 100000 0] (rfH l e) (.raw (.bool (decide ((sB (l, e)).1 = 1)))) (rfH (sB (l, e)).2.1 (wrE (sB (l, e)).1 (sB (l, e)).2.2)) := by
  have k1 := y_B (l := l) e hB hl
  have w1 := r_B hB e
  generalize sB (l, e) = r at k1 w1 ⊢
  obtain ⟨v1, l1, e1⟩ := r
  simp only at k1 w1 ⊢
  unfold wrE
  by_cases h0 : e1 = 0
  · subst h0
    rw [if_neg (show ¬ ((0 : Int) ≠ 0) by decide)]
    by_cases h1 : 1 < v1
    · rw [if_pos h1]
      refine zzg (nt := 20) (rs := [.tmp 2]) Tryd.func59 ?_; intro Q hQ hW
      repeat' (first
 | (with_reducible refine run_n ?_; with_reducible first | refine hK _ _ (by simp) ?_ | refine hK _ _ ?_; clear hK K)
 | (refine zzc ?_)
 | (with_reducible refine awp_regT (by kernel_rfl) ?_; intro K hK)
 | (with_reducible refine a_cond (ht := ?_) (hf := ?_) <;> intro hb <;> (try simp at hb) <;> (try contradiction) <;> (try subst hb) <;> (try omega))
 | (with_reducible first | refine a_move (hr:=?_) | refine a_assign (hr:=?_) | refine a_load (hr:=?_) | refine a_fieldAddr (hr:=?_) | refine a_nilCheck (hr:=?_) | refine a_bin (hr:=?_) | refine a_pick (hr:=?_) | refine a_store (hr:=?_) | refine a_eqB (hr:=?_) | refine a_eqS (hr:=?_) | refine a_callP (p := 100000) (hcall := k1) (hr:=?_) | refine a_gT (hr:=?_) | refine a_gF (hr:=?_) | refine a_gU (hr:=?_))
 | (with_reducible refine a_gB (hT := ?_) (hF := ?_) <;> intro hb <;> (try simp at hb) <;> (try contradiction) <;> (try subst hb) <;> (try omega))
 | fail)
      all_goals ((refine zzr hQ ?_))
      all_goals (exact Fin.keep (by simp; exact .r) (by simp; exact .r) (by simp; exact .r) (by simp))
    · rw [if_neg h1]
      refine zzg (nt := 20) (rs := [.tmp 2]) Tryd.func59 ?_; intro Q hQ hW
      repeat' (first
 | (with_reducible refine run_n ?_; with_reducible first | refine hK _ _ (by simp) ?_ | refine hK _ _ ?_; clear hK K)
 | (refine zzc ?_)
 | (with_reducible refine awp_regT (by kernel_rfl) ?_; intro K hK)
 | (with_reducible refine a_cond (ht := ?_) (hf := ?_) <;> intro hb <;> (try simp at hb) <;> (try contradiction) <;> (try subst hb) <;> (try omega))
 | (with_reducible first | refine a_move (hr:=?_) | refine a_assign (hr:=?_) | refine a_load (hr:=?_) | refine a_fieldAddr (hr:=?_) | refine a_nilCheck (hr:=?_) | refine a_bin (hr:=?_) | refine a_pick (hr:=?_) | refine a_store (hr:=?_) | refine a_eqB (hr:=?_) | refine a_eqS (hr:=?_) | refine a_callP (p := 100000) (hcall := k1) (hr:=?_) | refine a_gT (hr:=?_) | refine a_gF (hr:=?_) | refine a_gU (hr:=?_))
 | (with_reducible refine a_gB (hT := ?_) (hF := ?_) <;> intro hb <;> (try simp at hb) <;> (try contradiction) <;> (try subst hb) <;> (try omega))
 | fail)
      all_goals ((refine zzr hQ ?_))
      all_goals (exact Fin.keep (by simp; exact .r) (by simp; exact .r) (by simp; exact .r) (by simp))
  · rw [if_pos h0]
    refine zzg (nt := 20) (rs := [.tmp 2]) Tryd.func59 ?_; intro Q hQ hW
    repeat' (first
 | (with_reducible refine run_n ?_; with_reducible first | refine hK _ _ (by simp) ?_ | refine hK _ _ ?_; clear hK K)
 | (refine zzc ?_)
 | (with_reducible refine awp_regT (by kernel_rfl) ?_; intro K hK)
 | (with_reducible refine a_cond (ht := ?_) (hf := ?_) <;> intro hb <;> (try simp at hb) <;> (try contradiction) <;> (try subst hb) <;> (try omega))
 | (with_reducible first | refine a_move (hr:=?_) | refine a_assign (hr:=?_) | refine a_load (hr:=?_) | refine a_fieldAddr (hr:=?_) | refine a_nilCheck (hr:=?_) | refine a_bin (hr:=?_) | refine a_pick (hr:=?_) | refine a_store (hr:=?_) | refine a_eqB (hr:=?_) | refine a_eqS (hr:=?_) | refine a_callP (p := 100000) (hcall := k1) (hr:=?_) | refine a_gT (hr:=?_) | refine a_gF (hr:=?_) | refine a_gU (hr:=?_))
 | (with_reducible refine a_gB (hT := ?_) (hF := ?_) <;> intro hb <;> (try simp at hb) <;> (try contradiction) <;> (try subst hb) <;> (try omega))
 | fail)
    all_goals ((refine zzr hQ ?_))
    all_goals (exact Fin.keep (by simp; exact .r) (by simp; exact .r) (by simp; exact .r) (by simp))
theorem c_r14node {l : List Int} (e : Int) (hB : IsB l) (hl : l.length ≤ 4611686018427387903) : CallD Tryd.prog 38 [.ptr 100000 0] (rfH l e) (nodeAV (nodeS (l, e)).1) (rfH (nodeS (l, e)).2.2.1 (wrE (nodeS (l, e)).2.1 (nodeS (l, e)).2.2.2)) := by
  simp only [nodeS]
  have k1 := y_B (l := l) e hB hl
  have w1 := r_B hB e
  have b1 := isB_sB (e := e) hB
  have n1 := ln_sB (e := e) hl
  generalize sB (l, e) = r at k1 w1 b1 n1 ⊢
  obtain ⟨v1, l1, e1⟩ := r
  simp only at k1 w1 b1 n1 ⊢
  have k2 := y_T (l := l1) e1 128 b1 n1 (by omega)
  have b2 := isB_sT (e := e1) (most := 128) b1
  have n2 := ln_sT (e := e1) (most := 128) n1
  generalize sT 128 (l1, e1) = r at k2 b2 n2 ⊢
  obtain ⟨v2, l2, e2⟩ := r
  simp only at k2 b2 n2 ⊢
  have k3 := y_U (l := l2) e2 255 b2 n2
  have w3 := r_U b2 e2 (most := 255) (by omega)
  have b3 := isB_sU (e := e2) (most := 255) b2
  have n3 := ln_sU (e := e2) (most := 255) n2
  generalize sU 255 (l2, e2) = r at k3 w3 b3 n3 ⊢
  obtain ⟨v3, l3, e3⟩ := r
  simp only at k3 w3 b3 n3 ⊢
  have k4 := y_T (l := l3) e3 128 b3 n3 (by omega)
  have b4 := isB_sT (e := e3) (most := 128) b3
  have n4 := ln_sT (e := e3) (most := 128) n3
  generalize sT 128 (l3, e3) = r at k4 b4 n4 ⊢
  obtain ⟨v4, l4, e4⟩ := r
  simp only at k4 b4 n4 ⊢
  have k5 := y_T (l := l4) e4 128 b4 n4 (by omega)
  have b5 := isB_sT (e := e4) (most := 128) b4
  have n5 := ln_sT (e := e4) (most := 128) n4
  generalize sT 128 (l4, e4) = r at k5 b5 n5 ⊢
  obtain ⟨v5, l5, e5⟩ := r
  simp only at k5 b5 n5 ⊢
  have k6 := y_T (l := l5) e5 128 b5 n5 (by omega)
  have b6 := isB_sT (e := e5) (most := 128) b5
  have n6 := ln_sT (e := e5) (most := 128) n5
  generalize sT 128 (l5, e5) = r at k6 b6 n6 ⊢
  obtain ⟨v6, l6, e6⟩ := r
  simp only at k6 b6 n6 ⊢
  have k7 := y_U (l := l6) e6 255 b6 n6
  have w7 := r_U b6 e6 (most := 255) (by omega)
  have b7 := isB_sU (e := e6) (most := 255) b6
  have n7 := ln_sU (e := e6) (most := 255) n6
  generalize sU 255 (l6, e6) = r at k7 w7 b7 n7 ⊢
  obtain ⟨v7, l7, e7⟩ := r
  simp only at k7 w7 b7 n7 ⊢
  have k8 := c_r14truth (l := l7) e7 b7 n7
  generalize sB (l7, e7) = r at k8 ⊢
  obtain ⟨v8, l8, e8⟩ := r
  simp only at k8 ⊢
  generalize wrE v8 e8 = ee at k8 ⊢
  clear hB hl b1 b2 b3 b4 b5 b6 b7 n1 n2 n3 n4 n5 n6 n7
  refine zzg (nt := 34) (rs := [.cell 2 52]) Tryd.func38 ?_; intro Q hQ hW
  repeat' (first
 | (with_reducible refine run_n ?_; with_reducible first | refine hK _ _ (by simp) ?_ | refine hK _ _ ?_; clear hK K)
 | (refine zzc ?_)
 | (with_reducible refine awp_regT (by kernel_rfl) ?_; intro K hK)
 | (with_reducible refine a_cond (ht := ?_) (hf := ?_) <;> intro hb <;> (try simp at hb) <;> (try contradiction) <;> (try subst hb) <;> (try omega))
 | (with_reducible first | refine a_move (hr:=?_) | refine a_load (hr:=?_) | refine a_fieldAddr (hr:=?_) | refine a_bin (hr:=?_) | refine a_store (hr:=?_) | refine a_alloc (hr:=?_) | refine a_conv (hr:=?_) | refine a_bytesStr (hr:=?_) | refine a_strBytes (hr:=?_) | refine a_sameSl (hr:=?_) | refine a_callP (p := 100000) (hcall := k1) (hr:=?_) | refine a_callP (p := 100000) (hcall := k2) (hr:=?_) | refine a_callP (p := 100000) (hcall := k3) (hr:=?_) | refine a_callP (p := 100000) (hcall := k4) (hr:=?_) | refine a_callP (p := 100000) (hcall := k5) (hr:=?_) | refine a_callP (p := 100000) (hcall := k6) (hr:=?_) | refine a_callP (p := 100000) (hcall := k7) (hr:=?_) | refine a_callP (p := 100000) (hcall := k8) (hr:=?_))
 | fail)
  all_goals ((refine zzr hQ ?_))
  all_goals (exact Fin.keep (by simp; exact .r) (by simp; exact .r) (by simp; exact .r) (by simp))
theorem c_r14flow {l : List Int} (e : Int) (hB : IsB l) (hl : l.length ≤ 4611686018427387903) : CallD Tryd.prog 40 [.ptr 100000 0] (rfH l e) (flowAV (flowS (l, e)).1) (rfH (flowS (l, e)).2.2.1 (wrE (flowS (l, e)).2.1 (flowS (l, e)).2.2.2)) := by
  simp only [flowS]
  have k1 := y_U (l := l) e 254 hB hl
  have w1 := r_U hB e (most := 254) (by omega)
  have b1 := isB_sU (e := e) (most := 254) hB
  have n1 := ln_sU (e := e) (most := 254) hl
  generalize sU 254 (l, e) = r at k1 w1 b1 n1 ⊢
  obtain ⟨v1, l1, e1⟩ := r
  simp only at k1 w1 b1 n1 ⊢
  have k2 := y_U (l := l1) e1 254 b1 n1
  have w2 := r_U b1 e1 (most := 254) (by omega)
  have b2 := isB_sU (e := e1) (most := 254) b1
  have n2 := ln_sU (e := e1) (most := 254) n1
  generalize sU 254 (l1, e1) = r at k2 w2 b2 n2 ⊢
  obtain ⟨v2, l2, e2⟩ := r
  simp only at k2 w2 b2 n2 ⊢
  have k3 := y_T (l := l2) e2 128 b2 n2 (by omega)
  have b3 := isB_sT (e := e2) (most := 128) b2
  have n3 := ln_sT (e := e2) (most := 128) n2
  generalize sT 128 (l2, e2) = r at k3 b3 n3 ⊢
  obtain ⟨v3, l3, e3⟩ := r
  simp only at k3 b3 n3 ⊢
  have k4 := c_r14truth (l := l3) e3 b3 n3
  generalize sB (l3, e3) = r at k4 ⊢
  obtain ⟨v4, l4, e4⟩ := r
  simp only at k4 ⊢
  generalize wrE v4 e4 = ee at k4 ⊢
  clear hB hl b1 b2 b3 n1 n2 n3
  refine zzg (nt := 19) (rs := [.cell 2 54]) Tryd.func40 ?_; intro Q hQ hW
  repeat' (first
 | (with_reducible refine run_n ?_; with_reducible first | refine hK _ _ (by simp) ?_ | refine hK _ _ ?_; clear hK K)
 | (refine zzc ?_)
 | (with_reducible refine awp_regT (by kernel_rfl) ?_; intro K hK)
 | (with_reducible refine a_cond (ht := ?_) (hf := ?_) <;> intro hb <;> (try simp at hb) <;> (try contradiction) <;> (try subst hb) <;> (try omega))
 | (with_reducible first | refine a_move (hr:=?_) | refine a_load (hr:=?_) | refine a_fieldAddr (hr:=?_) | refine a_store (hr:=?_) | refine a_alloc (hr:=?_) | refine a_conv (hr:=?_) | refine a_bytesStr (hr:=?_) | refine a_strBytes (hr:=?_) | refine a_sameSl (hr:=?_) | refine a_callP (p := 100000) (hcall := k1) (hr:=?_) | refine a_callP (p := 100000) (hcall := k2) (hr:=?_) | refine a_callP (p := 100000) (hcall := k3) (hr:=?_) | refine a_callP (p := 100000) (hcall := k4) (hr:=?_))
 | fail)
  all_goals ((refine zzr hQ ?_))
  all_goals (exact Fin.keep (by simp; exact .r) (by simp; exact .r) (by simp; exact .r) (by simp))
end Go.Proofs.YtejeemhenoobjaaDoor.Asl

namespace Go.Proofs.YtejeemhenoobjaaDoor.Asl
open Go Go.RowKit
open Go.Proofs.YtejeemhenoobjaaDoor.Errs (EV)
set_option linter.unusedVariables false
set_option linter.unusedSimpArgs false
set_option maxRecDepth 100000
set_option maxHeartbeats 4000000
theorem nums_app {a b : List Int} (ha : IsB a) (hb : IsB b) : strOfNums a ++ strOfNums b = strOfNums (a ++ b) := by
  apply bytes_inj
  rw [bytes_app, bytes_of_nums ha, bytes_of_nums hb, bytes_of_nums (isB_app.2 ⟨ha, hb⟩)]
theorem nat10_step {n : Int} (h0 : 10 ≤ n) (h1 : n < 18446744073709551616) : nat10 20 n = nat10 20 (n / 10) ++ [48 + n % 10] := by
  have h2 := nat10_fuel 18 (n / 10) (by omega) (by rw [show (10 : Int) ^ (18 + 1) = 10000000000000000000 by decide]; omega)
  conv => lhs; rw [nat10]
  rw [if_neg (by omega), h2]
theorem c_Natural : ∀ (k : Nat) (n : Int), n.toNat < k → 0 ≤ n → n < 18446744073709551616 → CallD Tryd.prog 60 [.raw (.int .u64 n)] noHeap (.raw (.string (strOfNums (nat10 20 n)))) noHeap
  | 0, n, hk, _, _ => absurd hk (by omega)
  | k + 1, n, hk, h0, h1 => by
    by_cases h10 : n < 10
    · have e : nat10 20 n = [48 + n % 10] := by rw [nat10, if_pos h10, Int.emod_eq_of_lt h0 (by omega)]
      rw [e]
      refine zzg (nt := 18) (rs := [.tmp 2]) Tryd.func60 ?_; intro Q hQ hW
      repeat' (first
 | (with_reducible refine run_n ?_; with_reducible first | refine hK _ _ (by simp) ?_ | refine hK _ _ ?_; clear hK K)
 | (refine zzc ?_)
 | (with_reducible refine awp_regT (by kernel_rfl) ?_; intro K hK)
 | (with_reducible refine a_cond (ht := ?_) (hf := ?_) <;> intro hb <;> (try simp at hb) <;> (try contradiction) <;> (try subst hb) <;> (try omega))
 | (with_reducible first | refine a_move (hr:=?_) | refine a_assign (hr:=?_) | refine a_remU (hr:=?_) | refine a_quoU (hr:=?_) | refine a_bin (hr:=?_) | refine a_conv (hr:=?_) | refine a_bytesStr (hr:=?_) | refine a_strBytes (hr:=?_) | refine a_sameSl (hr:=?_) | refine a_buildSlice (hr:=?_))
 | fail)
      all_goals ((refine zzr hQ ?_))
      all_goals (exact zzd)
    · have ih := c_Natural k (n / 10) (by omega) (by omega) (by omega)
      rw [nat10_step (by omega) h1]
      have hB := nat10_isB 20 (n / 10) (by omega)
      have hl := nat10_len 20 (n / 10)
      generalize nat10 20 (n / 10) = q at ih hB hl ⊢
      have hz := size_of_nums q
      have ha := nums_app hB (show IsB [48 + n % 10] from isB_cons.2 ⟨by omega, isB_nil⟩)
      rw [← ha, show strOfNums [48 + n % 10] = ⟨#[UInt8.ofNat (48 + n % 10).toNat]⟩ from rfl]
      refine zzg (nt := 18) (rs := [.tmp 2]) Tryd.func60 ?_; intro Q hQ hW
      repeat' (first
 | (with_reducible refine run_n ?_; with_reducible first | refine hK _ _ (by simp) ?_ | refine hK _ _ ?_; clear hK K)
 | (refine zzc ?_)
 | (with_reducible refine awp_regT (by kernel_rfl) ?_; intro K hK)
 | (with_reducible refine a_cond (ht := ?_) (hf := ?_) <;> intro hb <;> (try simp at hb) <;> (try contradiction) <;> (try subst hb) <;> (try omega))
 | (with_reducible first | refine a_move (hr:=?_) | refine a_assign (hr:=?_) | refine a_remU (hr:=?_) | refine a_quoU (hr:=?_) | refine a_bin (hr:=?_) | refine a_conv (hr:=?_) | refine a_bytesStr (hr:=?_) | refine a_strBytes (hr:=?_) | refine a_sameSl (hr:=?_) | refine a_buildSlice (hr:=?_) | refine a_call0 (hcall := ih) (hr:=?_))
 | fail)
      all_goals ((refine zzr hQ ?_))
      all_goals (exact zzd)
theorem c_r13Place (w : ByteArray) (i : Int) (hw : w.size ≤ 1000) (hi : 0 ≤ i ∧ i < 9223372036854775808) : CallD Tryd.prog 39 [.raw (.string w), .raw (.int .i64 i)] noHeap (.raw (.string (w ++ ⟨#[32]⟩ ++ strOfNums (nat10 20 i)))) noHeap := by
  have q := c_Natural (i.toNat + 1) i (by omega) hi.1 (by omega)
  have hl := nat10_len 20 i
  have hz := size_of_nums (nat10 20 i)
  generalize strOfNums (nat10 20 i) = x at q hz ⊢
  refine zzg (nt := 11) (rs := [.tmp 4]) Tryd.func39 ?_; intro Q hQ hW
  repeat' (first
 | (with_reducible refine run_n ?_; with_reducible first | refine hK _ _ (by simp) ?_ | refine hK _ _ ?_; clear hK K)
 | (refine zzc ?_)
 | (with_reducible refine awp_regT (by kernel_rfl) ?_; intro K hK)
 | (with_reducible refine a_cond (ht := ?_) (hf := ?_) <;> intro hb <;> (try simp at hb) <;> (try contradiction) <;> (try subst hb) <;> (try omega))
 | (with_reducible first | refine a_move (hr:=?_) | refine a_assign (hr:=?_) | refine a_bin (hr:=?_) | refine a_conv (hr:=?_) | refine a_bytesStr (hr:=?_) | refine a_strBytes (hr:=?_) | refine a_sameSl (hr:=?_) | refine a_call0 (hcall := q) (hr:=?_))
 | fail)
  all_goals ((refine zzr hQ ?_))
  all_goals (exact zzd)
/-- What the document says of an error at a place. -/
def rePl (p : ByteArray) (c : Int) : RE := ⟨true, [p], c, false, ⟨#[]⟩, ⟨#[]⟩⟩
theorem c_r14bad (p : ByteArray) (c : Int) (hc : c ≠ 0) : CallD Tryd.prog 34 [.raw (.string p), .raw (.int .i64 c)] noHeap (.tup [defAV DefV.z, (rePl p c).av]) noHeap := by
  have q1 := c_ROf c
  have q2 := c_RWrap p ⟨!decide (c = 0), [], c, false, ⟨#[]⟩, ⟨#[]⟩⟩ (by simp)
  rw [show (!decide (c = 0)) = true by simp [hc]] at q1 q2
  unfold rePl
  simp only [if_true, RE.av, plAV_nil, plAV_cons] at q1 q2 ⊢
  unfold DefV.z
  refine zzg (nt := 11) (rs := [.cell 4 25, .cell 5 43]) Tryd.func34 ?_; intro Q hQ hW
  repeat' (first
 | (with_reducible refine run_n ?_; with_reducible first | refine hK _ _ (by simp) ?_ | refine hK _ _ ?_; clear hK K)
 | (refine zzc ?_)
 | (with_reducible refine awp_regT (by kernel_rfl) ?_; intro K hK)
 | (with_reducible refine a_cond (ht := ?_) (hf := ?_) <;> intro hb <;> (try simp at hb) <;> (try contradiction) <;> (try subst hb) <;> (try omega))
 | (with_reducible first | refine a_move (hr:=?_) | refine a_store (hr:=?_) | refine a_alloc (hr:=?_) | refine a_build (hr:=?_) | refine a_call0 (hcall := q1) (hr:=?_) | refine a_callF (hcall := q2) (hr:=?_))
 | fail)
  all_goals ((refine zzr hQ ?_))
  all_goals (exact (Fin.drop (by simp; exact .r) (by simp)).trans Fin.zD)
end Go.Proofs.YtejeemhenoobjaaDoor.Asl

namespace Go.Proofs.YtejeemhenoobjaaDoor.Asl
open Go Go.RowKit
open Go.Proofs.YtejeemhenoobjaaDoor.Errs (EV)
set_option linter.unusedVariables false
set_option linter.unusedSimpArgs false
set_option maxRecDepth 100000
set_option maxHeartbeats 4000000
def hdC : List Int → List Int → Int
  | [], _ => 0
  | _ :: _, [] => 6
  | m :: ms, a :: l => if a = m then hdC ms l else 8
theorem headE_C (l : List Int) : headE l = hdC magicL l := by
  rcases l with _ | ⟨a, _ | ⟨b, _ | ⟨c, r⟩⟩⟩
  · rfl
  · by_cases h : a = 98 <;> simp [headE, hdC, magicL, h]
  · by_cases h : a = 98 <;> by_cases h2 : b = 112 <;> simp [headE, hdC, magicL, h, h2]
  · by_cases h : a = 98 <;> by_cases h2 : b = 112 <;> by_cases h3 : c = 49 <;> simp [headE, hdC, magicL, h, h2, h3]
theorem hdC_step {i : Nat} (hi : i < 3) (c : Int) (r : List Int) : hdC (magicL.drop i) (c :: r) = if c = byteAt ⟨#[98, 112, 49]⟩ i then hdC (magicL.drop (i + 1)) r else 8 := by
  have : i = 0 ∨ i = 1 ∨ i = 2 := by omega
  rcases this with rfl | rfl | rfl <;> rfl
theorem hdC_out {i : Nat} (hi : i < 3) : hdC (magicL.drop i) [] = 6 := by
  have : i = 0 ∨ i = 1 ∨ i = 2 := by omega
  rcases this with rfl | rfl | rfl <;> rfl
theorem c_r14head (l : List Int) (hB : IsB l) (hl : l.length ≤ 4611686018427387903) : CallD Tryd.prog 33 [.sl 1 (u8s l)] noHeap (.raw (.int .i64 (headE l))) noHeap := by
  rw [headE_C]
  obtain ⟨E, hE⟩ : ∃ E, hdC magicL l = E := ⟨_, rfl⟩
  rw [hE]
  refine zzg (nt := 19) (rs := [.tmp 2]) Tryd.func33 ?_; intro Q hQ hW
  repeat' (first
 | (with_reducible refine run_n ?_; with_reducible first | refine hK _ _ (by simp) ?_ | refine hK _ _ ?_; clear hK K)
 | (refine zzc ?_)
 | (with_reducible refine awp_regT (by kernel_rfl) ?_; intro K hK)
 | (with_reducible refine awp_regAM (id := 6) [] mixed (by kernel_rfl) (by kernel_rfl) ?_; intro K hK)
 | (with_reducible refine a_cond (ht := ?_) (hf := ?_) <;> intro hb <;> (try simp at hb) <;> (try contradiction) <;> (try subst hb) <;> (try omega))
 | (with_reducible first | refine a_move (hr:=?_) | refine a_assign (hr:=?_) | refine a_load (hr:=?_) | refine a_bin (hr:=?_) | refine a_lenS (hr:=?_) | refine a_lenR (hr:=?_) | refine a_neB (hr:=?_) | refine a_idxArr (hr:=?_) | refine a_neS (hr:=?_) | refine a_index (hr:=?_) | refine a_indexAddr (hr:=?_))
 | fail)
  refine awp_inv (α := Nat) (fun i => [(0, .sl 1 (u8s l)), (4, .raw (.int .i64 i))]) (fun i => hpL []) (fun i => i ≤ 3 ∧ hdC (magicL.drop i) (l.drop i) = E) (fun i => 3 - i) 0 ⟨by omega, hE⟩ (zzw) ?_
  rintro i ⟨g1, g2⟩
  rcases Nat.lt_or_ge i 3 with h3 | h3
  · rcases Nat.lt_or_ge i l.length with hlt | hge
    · have hx := List.getElem?_eq_getElem hlt
      rw [List.drop_eq_getElem_cons hlt, hdC_step h3] at g2
      have hr := hB _ (List.getElem_mem hlt)
      generalize l[i] = c at hx g2 hr
      have hb2 := byteAt_range (⟨#[98, 112, 49]⟩ : ByteArray) i
      generalize hmb : byteAt ⟨#[98, 112, 49]⟩ i = m at g2 hb2
      clear hE hB
      by_cases hc : c = m
      · rw [if_pos hc] at g2
        subst hc
        repeat' (first
 | (with_reducible refine run_n ?_; with_reducible first | refine hK _ _ (by simp) ?_ | refine hK _ _ ?_; clear hK K)
 | (refine zzc ?_)
 | (with_reducible refine awp_regT (by kernel_rfl) ?_; intro K hK)
 | (with_reducible refine awp_regAM (id := 6) [] mixed (by kernel_rfl) (by kernel_rfl) ?_; intro K hK)
 | (with_reducible refine a_cond (ht := ?_) (hf := ?_) <;> intro hb <;> (try simp at hb) <;> (try contradiction) <;> (try subst hb) <;> (try omega))
 | (with_reducible first | refine a_move (hr:=?_) | refine a_assign (hr:=?_) | refine a_load (hr:=?_) | refine a_bin (hr:=?_) | refine a_lenS (hr:=?_) | refine a_lenR (hr:=?_) | refine a_neB (hr:=?_) | refine a_idxArr (hr:=?_) | refine a_neS (hr:=?_) | refine a_index (hr:=?_) | refine a_indexAddr (hr:=?_))
 | fail)
        all_goals first
          | (exfalso; omega)
          | exact ⟨i + 1, by omega, ⟨by omega, g2⟩, zzw⟩
      · rw [if_neg hc] at g2
        subst g2
        repeat' (first
 | (with_reducible refine run_n ?_; with_reducible first | refine hK _ _ (by simp) ?_ | refine hK _ _ ?_; clear hK K)
 | (refine zzc ?_)
 | (with_reducible refine awp_regT (by kernel_rfl) ?_; intro K hK)
 | (with_reducible refine awp_regAM (id := 6) [] mixed (by kernel_rfl) (by kernel_rfl) ?_; intro K hK)
 | (with_reducible refine a_cond (ht := ?_) (hf := ?_) <;> intro hb <;> (try simp at hb) <;> (try contradiction) <;> (try subst hb) <;> (try omega))
 | (with_reducible first | refine a_move (hr:=?_) | refine a_assign (hr:=?_) | refine a_load (hr:=?_) | refine a_bin (hr:=?_) | refine a_lenS (hr:=?_) | refine a_lenR (hr:=?_) | refine a_neB (hr:=?_) | refine a_idxArr (hr:=?_) | refine a_neS (hr:=?_) | refine a_index (hr:=?_) | refine a_indexAddr (hr:=?_))
 | fail)
        all_goals first
          | (exfalso; omega)
          | (((refine zzr hQ ?_)); exact zzd)
    · rw [List.drop_eq_nil_of_le hge, hdC_out h3] at g2
      subst g2
      clear hB
      repeat' (first
 | (with_reducible refine run_n ?_; with_reducible first | refine hK _ _ (by simp) ?_ | refine hK _ _ ?_; clear hK K)
 | (refine zzc ?_)
 | (with_reducible refine awp_regT (by kernel_rfl) ?_; intro K hK)
 | (with_reducible refine awp_regAM (id := 6) [] mixed (by kernel_rfl) (by kernel_rfl) ?_; intro K hK)
 | (with_reducible refine a_cond (ht := ?_) (hf := ?_) <;> intro hb <;> (try simp at hb) <;> (try contradiction) <;> (try subst hb) <;> (try omega))
 | (with_reducible first | refine a_move (hr:=?_) | refine a_assign (hr:=?_) | refine a_load (hr:=?_) | refine a_bin (hr:=?_) | refine a_lenS (hr:=?_) | refine a_lenR (hr:=?_) | refine a_neB (hr:=?_) | refine a_idxArr (hr:=?_) | refine a_neS (hr:=?_) | refine a_index (hr:=?_) | refine a_indexAddr (hr:=?_))
 | fail)
      all_goals ((refine zzr hQ ?_))
      all_goals (exact zzd)
  · have : i = 3 := by omega
    subst this
    have : E = 0 := g2.symm
    subst this
    clear g2 hB hE
    repeat' (first
 | (with_reducible refine run_n ?_; with_reducible first | refine hK _ _ (by simp) ?_ | refine hK _ _ ?_; clear hK K)
 | (refine zzc ?_)
 | (with_reducible refine awp_regT (by kernel_rfl) ?_; intro K hK)
 | (with_reducible refine awp_regAM (id := 6) [] mixed (by kernel_rfl) (by kernel_rfl) ?_; intro K hK)
 | (with_reducible refine a_cond (ht := ?_) (hf := ?_) <;> intro hb <;> (try simp at hb) <;> (try contradiction) <;> (try subst hb) <;> (try omega))
 | (with_reducible first | refine a_move (hr:=?_) | refine a_assign (hr:=?_) | refine a_load (hr:=?_) | refine a_bin (hr:=?_) | refine a_lenS (hr:=?_) | refine a_lenR (hr:=?_) | refine a_neB (hr:=?_) | refine a_idxArr (hr:=?_) | refine a_neS (hr:=?_) | refine a_index (hr:=?_) | refine a_indexAddr (hr:=?_))
 | fail)
    all_goals ((refine zzr hQ ?_))
    all_goals (exact zzd)
end Go.Proofs.YtejeemhenoobjaaDoor.Asl

namespace Go.Proofs.YtejeemhenoobjaaDoor.Asl
open Go Go.RowKit
open Go.Proofs.YtejeemhenoobjaaDoor.Errs (EV)
set_option linter.unusedVariables false
set_option linter.unusedSimpArgs false
set_option maxRecDepth 100000
set_option maxHeartbeats 8000000
@[simp ↓ high] theorem orow_one {id sz : Nat} {l : List AV} : (orow id sz l).one = true := by unfold orow; split <;> rfl
@[simp ↓ high] theorem orow_size {id sz : Nat} {l : List AV} : (orow id sz l).size = 1 := AV.size_one orow_one
@[simp ↓ high] theorem orow_isAgg {id sz : Nat} {l : List AV} : (orow id sz l).isAgg = false := by unfold orow; split <;> rfl
@[simp ↓ high] theorem orow_get {id sz : Nat} {l : List AV} (n : Nat) (ag : Bool) (off : Nat) : AV.get n ag (orow id sz l) off = if off = 0 ∧ n = 1 ∧ ag = false then some (orow id sz l) else none := get_leaf orow_isAgg n ag off
@[simp ↓ high] theorem orow_set {id sz : Nat} {l : List AV} (n : Nat) (y : AV) (off : Nat) : AV.set n y (orow id sz l) off = if off = 0 ∧ n = 1 ∧ y.one = true then some y else none := set_leaf orow_isAgg n y off
/-- What is wrong, as the document tells it. -/
def reK : TkE → RE
  | .ok => ⟨false, [], 0, false, ⟨#[]⟩, ⟨#[]⟩⟩
  | .at_ 0 _ c => rePl headT c
  | .at_ 1 _ c => rePl (nodeT ++ ⟨#[115]⟩) c
  | .at_ 2 i c => rePl (placeT nodeT i) c
  | .at_ 3 _ c => rePl (flowT ++ ⟨#[115]⟩) c
  | .at_ _ i c => rePl (placeT flowT i) c
  | .rest => ⟨true, [], 10, false, ⟨#[]⟩, ⟨#[]⟩⟩
def tkFl (nm : ByteArray) (ns : List NodeV) (q : List FlowV × Option (Nat × Int) × RSt) : DefV × TkE := match q.2.1 with
  | some p => (DefV.z, .at_ 4 p.1 p.2)
  | none => if q.2.2.1 = [] then (⟨nm, ns, q.1⟩, .ok) else (DefV.z, .rest)
def tkNd (nm : ByteArray) (q : List NodeV × Option (Nat × Int) × RSt) : DefV × TkE := match q.2.1 with
  | some p => (DefV.z, .at_ 2 p.1 p.2)
  | none => if (sU 80 q.2.2).2.2 ≠ 0 then (DefV.z, .at_ 3 0 (sU 80 q.2.2).2.2) else tkFl nm q.1 (flowsS (sU 80 q.2.2).1.toNat 0 (sU 80 q.2.2).2 [])
theorem takeD_tk (l : List Int) : takeD l = if headE l ≠ 0 then (DefV.z, .at_ 0 0 (headE l)) else if (sT 128 (l.drop 3, 0)).2.2 ≠ 0 then (DefV.z, .at_ 0 0 (sT 128 (l.drop 3, 0)).2.2) else if (sU 40 (sT 128 (l.drop 3, 0)).2).2.2 ≠ 0 then (DefV.z, .at_ 1 0 (sU 40 (sT 128 (l.drop 3, 0)).2).2.2) else tkNd (sT 128 (l.drop 3, 0)).1 (nodesS (sU 40 (sT 128 (l.drop 3, 0)).2).1.toNat 0 (sU 40 (sT 128 (l.drop 3, 0)).2).2 []) := by
  unfold takeD tkNd
  generalize nodesS (sU 40 (sT 128 (l.drop 3, 0)).2).1.toNat 0 (sU 40 (sT 128 (l.drop 3, 0)).2).2 [] = q
  obtain ⟨ns, _ | ⟨i, c⟩, s⟩ := q
  · simp only
    unfold tkFl
    generalize flowsS (sU 80 s).1.toNat 0 (sU 80 s).2 [] = w
    obtain ⟨fs, _ | ⟨j, d⟩, s2⟩ := w <;> rfl
  · rfl
structure NdI (k : Nat) (s1 : RSt) (i : Nat) (l : List Int) (out : List NodeV) : Prop where
  le : i ≤ k
  go : nodesS (k - i) i (l, 0) out = nodesS k 0 s1 []
  isB : IsB l
  ln : l.length ≤ 4611686018427387903
  len : out.length = i
theorem NdI.next {k : Nat} {s1 : RSt} {i : Nat} {l : List Int} {out : List NodeV} (g : NdI k s1 i l out) (hlt : i < k) (h0 : wrE (nodeS (l, 0)).2.1 (nodeS (l, 0)).2.2.2 = 0) (hB : IsB (nodeS (l, 0)).2.2.1) (hl : (nodeS (l, 0)).2.2.1.length ≤ 4611686018427387903) : NdI k s1 (i + 1) (nodeS (l, 0)).2.2.1 (out ++ [(nodeS (l, 0)).1]) := by
  have hs := g.go
  rw [show k - i = (k - (i + 1)) + 1 by omega, nodesS, if_neg (by simpa using h0)] at hs
  have he := (wr_0 h0).1
  refine ⟨hlt, ?_, hB, hl, by simp [g.len]⟩
  rw [← hs, show (nodeS (l, 0)).2.2 = ((nodeS (l, 0)).2.2.1, 0) from Prod.ext rfl he]
theorem NdI.stop {k : Nat} {s1 : RSt} {i : Nat} {l : List Int} {out : List NodeV} (g : NdI k s1 i l out) (hlt : i < k) (h0 : wrE (nodeS (l, 0)).2.1 (nodeS (l, 0)).2.2.2 ≠ 0) : nodesS k 0 s1 [] = (out ++ [(nodeS (l, 0)).1], some (i, wrE (nodeS (l, 0)).2.1 (nodeS (l, 0)).2.2.2), (nodeS (l, 0)).2.2) := by
  have hs := g.go
  rw [show k - i = (k - (i + 1)) + 1 by omega, nodesS, if_pos h0] at hs
  exact hs.symm
theorem isB_nodeS {l : List Int} {e : Int} (h : IsB l) : IsB (nodeS (l, e)).2.2.1 := isB_sB (isB_sU (isB_sT (isB_sT (isB_sT (isB_sU (isB_sT (isB_sB h)))))))
theorem ln_nodeS {l : List Int} {e : Int} {n : Nat} (h : l.length ≤ n) : (nodeS (l, e)).2.2.1.length ≤ n := ln_sB (ln_sU (ln_sT (ln_sT (ln_sT (ln_sU (ln_sT (ln_sB h)))))))
theorem isB_flowS {l : List Int} {e : Int} (h : IsB l) : IsB (flowS (l, e)).2.2.1 := isB_sB (isB_sT (isB_sU (isB_sU h)))
theorem ln_flowS {l : List Int} {e : Int} {n : Nat} (h : l.length ≤ n) : (flowS (l, e)).2.2.1.length ≤ n := ln_sB (ln_sT (ln_sU (ln_sU h)))
structure FlI (k : Nat) (s1 : RSt) (i : Nat) (l : List Int) (out : List FlowV) : Prop where
  le : i ≤ k
  go : flowsS (k - i) i (l, 0) out = flowsS k 0 s1 []
  isB : IsB l
  ln : l.length ≤ 4611686018427387903
  len : out.length = i
theorem FlI.next {k : Nat} {s1 : RSt} {i : Nat} {l : List Int} {out : List FlowV} (g : FlI k s1 i l out) (hlt : i < k) (h0 : wrE (flowS (l, 0)).2.1 (flowS (l, 0)).2.2.2 = 0) (hB : IsB (flowS (l, 0)).2.2.1) (hl : (flowS (l, 0)).2.2.1.length ≤ 4611686018427387903) : FlI k s1 (i + 1) (flowS (l, 0)).2.2.1 (out ++ [(flowS (l, 0)).1]) := by
  have hs := g.go
  rw [show k - i = (k - (i + 1)) + 1 by omega, flowsS, if_neg (by simpa using h0)] at hs
  have he := (wr_0 h0).1
  refine ⟨hlt, ?_, hB, hl, by simp [g.len]⟩
  rw [← hs, show (flowS (l, 0)).2.2 = ((flowS (l, 0)).2.2.1, 0) from Prod.ext rfl he]
theorem FlI.stop {k : Nat} {s1 : RSt} {i : Nat} {l : List Int} {out : List FlowV} (g : FlI k s1 i l out) (hlt : i < k) (h0 : wrE (flowS (l, 0)).2.1 (flowS (l, 0)).2.2.2 ≠ 0) : flowsS k 0 s1 [] = (out ++ [(flowS (l, 0)).1], some (i, wrE (flowS (l, 0)).2.1 (flowS (l, 0)).2.2.2), (flowS (l, 0)).2.2) := by
  have hs := g.go
  rw [show k - i = (k - (i + 1)) + 1 by omega, flowsS, if_pos h0] at hs
  exact hs.symm
theorem place10 (w : ByteArray) (i : Nat) : placeT w i = w ++ ⟨#[32]⟩ ++ strOfNums (nat10 20 i) := by
  unfold placeT prtS
  rw [show prtL 1 i ⟨#[]⟩ = digs10 i from if_pos rfl, show digs10 (i : Int) = nat10 20 i from if_neg (by omega)]
theorem fin_z1 {h : Hp} {s x y : AV} : Fin h (.tup [.agg [s, .raw (.slice none 0 0), x], y]) h (.tup [.agg [s, .sl 8 [], x], y]) := Fin.imp fun C v hv => by
  cases hv with
  | tup hv => cases hv with
    | cons h0 h1 => cases h0 with
      | agg h0 => cases h0 with
        | cons a h0 => cases h0 with
          | cons b h0 => cases b with
            | one b _ =>
              rw [RV.raw_eq b]
              exact .tup (.cons (.agg (.cons a (.cons (.one .sl0 rfl) h0))) h1)
theorem fin_z2 {h : Hp} {s x y : AV} : Fin h (.tup [.agg [s, x, .raw (.slice none 0 0)], y]) h (.tup [.agg [s, x, .sl 4 []], y]) := Fin.imp fun C v hv => by
  cases hv with
  | tup hv => cases hv with
    | cons h0 h1 => cases h0 with
      | agg h0 => cases h0 with
        | cons a h0 => cases h0 with
          | cons b h0 => cases h0 with
            | cons c h0 => cases c with
              | one c _ =>
                rw [RV.raw_eq c]
                exact .tup (.cons (.agg (.cons a (.cons b (.cons (.one .sl0 rfl) h0)))) h1)
theorem fin_def0 {nm : ByteArray} {ns : List NodeV} {fs : List FlowV} : Fin (ohp 170 8 (ns.map nodeAV) (ohp 171 4 (fs.map flowAV) (hpL []))) (.tup [.agg [.raw (.string nm), orow 170 8 (ns.map nodeAV), orow 171 4 (fs.map flowAV)], .agg [.raw (.bool false), .raw (.slice none 0 0), .raw (.int .i64 0), .raw (.bool false), .agg [.raw (.string ⟨#[]⟩), .raw (.string ⟨#[]⟩)]]]) noHeap (.tup [defAV ⟨nm, ns, fs⟩, .agg [.raw (.bool false), .raw (.slice none 0 0), .raw (.int .i64 0), .raw (.bool false), .agg [.raw (.string ⟨#[]⟩), .raw (.string ⟨#[]⟩)]]]) := by
  by_cases hn : ns = []
  · subst hn
    by_cases hf : fs = []
    · subst hf
      rw [List.map_nil, List.map_nil, ohp_nil rfl, ohp_nil rfl]
      exact (Fin.drop (by exact .r) (by simp)).trans (fin_z1.trans fin_z2)
    · have hf' : fs.map flowAV ≠ [] := by simpa using hf
      rw [List.map_nil, ohp_ne hf', ohp_nil (by simp), orow_nil, orow_ne hf']
      exact (Fin.frzR (r' := .tup [.agg [.raw (.string nm), .raw (.slice none 0 0), .sl 4 (fs.map flowAV)], .agg [.raw (.bool false), .raw (.slice none 0 0), .raw (.int .i64 0), .raw (.bool false), .agg [.raw (.string ⟨#[]⟩), .raw (.string ⟨#[]⟩)]]]) (by (simp; exact .r)) (by (simp [List.take_of_length_le]; exact .r)) (by (simp; exact .r)) (by simp)).trans fin_z1
  · have hn' : ns.map nodeAV ≠ [] := by simpa using hn
    by_cases hf : fs = []
    · subst hf
      rw [List.map_nil, ohp_nil rfl, ohp_ne hn', orow_nil, orow_ne hn']
      exact (Fin.frzR (r' := .tup [.agg [.raw (.string nm), .sl 8 (ns.map nodeAV), .raw (.slice none 0 0)], .agg [.raw (.bool false), .raw (.slice none 0 0), .raw (.int .i64 0), .raw (.bool false), .agg [.raw (.string ⟨#[]⟩), .raw (.string ⟨#[]⟩)]]]) (by (simp; exact .r)) (by (simp [List.take_of_length_le]; exact .r)) (by (simp; exact .r)) (by simp)).trans fin_z2
    · have hf' : fs.map flowAV ≠ [] := by simpa using hf
      rw [ohp_ne hf', ohp_ne hn', orow_ne hf', orow_ne hn']
      exact Fin.frzR (by (simp; exact .r)) (by (simp [List.take_of_length_le]; exact .r)) (by (simp; exact .r)) (by simp)
theorem fin_defL {nm : ByteArray} {ns : List NodeV} {fs : List FlowV} {h : Hp} (h1 : ¬ ns.map nodeAV = [] → h 170 = some (.arr 8 (ns.map nodeAV))) (h2 : ¬ fs.map flowAV = [] → h 171 = some (.arr 4 (fs.map flowAV))) (hb : BigIn h noHeap) : Fin h (.tup [.agg [.raw (.string nm), orow 170 8 (ns.map nodeAV), orow 171 4 (fs.map flowAV)], .agg [.raw (.bool false), .raw (.slice none 0 0), .raw (.int .i64 0), .raw (.bool false), .agg [.raw (.string ⟨#[]⟩), .raw (.string ⟨#[]⟩)]]]) noHeap (.tup [defAV ⟨nm, ns, fs⟩, .agg [.raw (.bool false), .raw (.slice none 0 0), .raw (.int .i64 0), .raw (.bool false), .agg [.raw (.string ⟨#[]⟩), .raw (.string ⟨#[]⟩)]]]) := by
  refine (Fin.sub (fun id ob hid => ?_) (fun id hid h0 => ?_) ?_).trans fin_def0
  · simp only [ohp_at] at hid
    split at hid
    · rename_i e; subst e
      split at hid
      · cases hid
      · rename_i e2; cases hid
        exact ⟨h1 e2, by simp⟩
    · split at hid
      · rename_i e; subst e
        split at hid
        · cases hid
        · rename_i e2; cases hid
          exact ⟨h2 e2, by simp⟩
      · cases hid
  · exact hb id hid rfl
  · have e1 : (orow 170 8 (ns.map nodeAV)).within (ohp 170 8 (ns.map nodeAV) (ohp 171 4 (fs.map flowAV) (hpL []))) = true := orow_within fun hne => by simp only [ohp_at, if_true]; rw [if_neg hne]; rfl
    have e2 : (orow 171 4 (fs.map flowAV)).within (ohp 170 8 (ns.map nodeAV) (ohp 171 4 (fs.map flowAV) (hpL []))) = true := orow_within fun hne => by simp only [ohp_at, if_true]; rw [if_neg (by decide), if_neg hne]; rfl
    show Is (AV.within _ _) true
    simp [e1, e2]
    exact .r
theorem c_r14Take (l : List Int) (hB : IsB l) (hl : l.length ≤ 140737488351232) : CallD Tryd.prog 11 [.sl 1 (u8s l)] noHeap (.tup [defAV (takeD l).1, (reK (takeD l).2).av]) noHeap := by
  have q := c_r14head l hB (by omega)
  by_cases h0 : headE l = 0
  · obtain ⟨t, rfl⟩ : ∃ t, l = magicL ++ t := ⟨_, head_0 h0⟩
    rw [h0] at q
    have hBt : IsB t := (isB_app.1 hB).2
    have htl : t.length ≤ 140737488351232 := by rw [List.length_append] at hl; omega
    have k0 := c_RfRead t htl
    have k1 := y_T (l := t) 0 128 hBt (by omega) (by omega)
    have b1 := isB_sT (e := 0) (most := 128) hBt
    have n1 := ln_sT (e := 0) (most := 128) (show t.length ≤ 4611686018427387903 by omega)
    have ht := takeD_tk (magicL ++ t)
    rw [if_neg (by rw [h0]; simp), show (magicL ++ t).drop 3 = t from rfl] at ht
    rw [ht]
    clear ht
    rw [show u8s (magicL ++ t) = .raw (.int .u8 98) :: .raw (.int .u8 112) :: .raw (.int .u8 49) :: u8s t by simp [magicL, u8s]] at q ⊢
    generalize sT 128 (t, 0) = r at k1 b1 n1 ⊢
    obtain ⟨nm, l1, e1⟩ := r
    simp only at k1 b1 n1 ⊢
    clear hB hl h0 hBt
    by_cases h1 : e1 ≠ 0
    · rw [if_pos h1]
      have q1 := c_r14bad headT e1 h1
      simp only [reK, rePl, RE.av, plAV_nil, plAV_cons] at q1 ⊢
      unfold DefV.z at q1 ⊢
      refine zzg (nt := 128) (rs := [.cell 2 25, .cell 3 43]) Tryd.func11 ?_; intro Q hQ hW
      repeat' (first
 | (with_reducible refine run_n ?_; with_reducible first | refine hK _ _ (by simp) ?_ | refine hK _ _ ?_; clear hK K)
 | (refine zzc ?_)
 | (with_reducible refine awp_regT (by kernel_rfl) ?_; intro K hK)
 | (with_reducible refine awp_regAM (id := 15) [(55, some 6), (61, some 6)] mixed (by kernel_rfl) (by kernel_rfl) ?_; intro K hK)
 | (with_reducible refine awp_regAM (id := 17) [(2, some 2), (3, some 3)] mixed (by kernel_rfl) (by kernel_rfl) ?_; intro K hK)
 | (with_reducible refine awp_regAM (id := 25) [(96, some 6), (102, some 6)] mixed (by kernel_rfl) (by kernel_rfl) ?_; intro K hK)
 | (with_reducible refine awp_regAM (id := 27) [(2, some 2), (3, some 3)] mixed (by kernel_rfl) (by kernel_rfl) ?_; intro K hK)
 | (with_reducible refine a_cond (ht := ?_) (hf := ?_) <;> intro hb <;> (try simp at hb) <;> (try contradiction) <;> (try subst hb) <;> (try omega))
 | (with_reducible first | refine a_move (hr:=?_) | refine a_assign (hr:=?_) | refine a_load (hr:=?_) | refine a_fieldAddr (hr:=?_) | refine a_nilCheck (hr:=?_) | refine a_bin (hr:=?_) | refine a_lenS (hr:=?_) | refine a_lenR (hr:=?_) | refine a_extract (hr:=?_) | refine a_store (hr:=?_) | refine a_alloc (hr:=?_) | refine a_neB (hr:=?_) | refine a_conv (hr:=?_) | refine a_bytesStr (hr:=?_) | refine a_strBytes (hr:=?_) | refine a_sameSl (hr:=?_) | refine a_sliceArr (hr:=?_) | refine a_neS (hr:=?_) | refine a_sliceS (hr:=?_) | refine a_sliceR (hr:=?_) | refine a_build (hr:=?_) | refine a_buildSlice (hr:=?_) | refine a_append (hr:=?_) | refine a_append0 (hr:=?_) | refine a_appendX (hr:=?_) | refine a_callF (hcall := q) (hr:=?_) | refine a_callB (hcall := k0) (hr:=?_) | refine a_callP (p := 20) (hcall := k1) (hr:=?_) | refine a_call0 (hcall := q1) (hr:=?_))
 | fail)
      all_goals ((refine zzr hQ ?_))
      all_goals (exact zzd)
    rw [if_neg h1]
    have h1' : e1 = 0 := by omega
    subst h1'
    clear h1
    have k2 := y_U (l := l1) 0 40 b1 n1
    have w2 := r_U b1 0 (most := 40) (by omega)
    have b2 := isB_sU (e := 0) (most := 40) b1
    have n2 := ln_sU (e := 0) (most := 40) n1
    generalize sU 40 (l1, 0) = r at k2 w2 b2 n2 ⊢
    obtain ⟨n, l2, e2⟩ := r
    simp only at k2 w2 b2 n2 ⊢
    by_cases h2 : e2 ≠ 0
    · rw [if_pos h2]
      have q1 := c_r14bad ⟨#[110, 111, 100, 101, 115]⟩ e2 h2
      simp only [reK, rePl, RE.av, plAV_nil, plAV_cons] at q1 ⊢
      rw [show nodeT ++ ⟨#[115]⟩ = (⟨#[110, 111, 100, 101, 115]⟩ : ByteArray) from rfl]
      unfold DefV.z at q1 ⊢
      clear b1 b2 n1 n2
      refine zzg (nt := 128) (rs := [.cell 2 25, .cell 3 43]) Tryd.func11 ?_; intro Q hQ hW
      repeat' (first
 | (with_reducible refine run_n ?_; with_reducible first | refine hK _ _ (by simp) ?_ | refine hK _ _ ?_; clear hK K)
 | (refine zzc ?_)
 | (with_reducible refine awp_regT (by kernel_rfl) ?_; intro K hK)
 | (with_reducible refine awp_regAM (id := 15) [(55, some 6), (61, some 6)] mixed (by kernel_rfl) (by kernel_rfl) ?_; intro K hK)
 | (with_reducible refine awp_regAM (id := 17) [(2, some 2), (3, some 3)] mixed (by kernel_rfl) (by kernel_rfl) ?_; intro K hK)
 | (with_reducible refine awp_regAM (id := 25) [(96, some 6), (102, some 6)] mixed (by kernel_rfl) (by kernel_rfl) ?_; intro K hK)
 | (with_reducible refine awp_regAM (id := 27) [(2, some 2), (3, some 3)] mixed (by kernel_rfl) (by kernel_rfl) ?_; intro K hK)
 | (with_reducible refine a_cond (ht := ?_) (hf := ?_) <;> intro hb <;> (try simp at hb) <;> (try contradiction) <;> (try subst hb) <;> (try omega))
 | (with_reducible first | refine a_move (hr:=?_) | refine a_assign (hr:=?_) | refine a_load (hr:=?_) | refine a_fieldAddr (hr:=?_) | refine a_nilCheck (hr:=?_) | refine a_bin (hr:=?_) | refine a_lenS (hr:=?_) | refine a_lenR (hr:=?_) | refine a_extract (hr:=?_) | refine a_store (hr:=?_) | refine a_alloc (hr:=?_) | refine a_neB (hr:=?_) | refine a_conv (hr:=?_) | refine a_bytesStr (hr:=?_) | refine a_strBytes (hr:=?_) | refine a_sameSl (hr:=?_) | refine a_sliceArr (hr:=?_) | refine a_neS (hr:=?_) | refine a_sliceS (hr:=?_) | refine a_sliceR (hr:=?_) | refine a_build (hr:=?_) | refine a_buildSlice (hr:=?_) | refine a_append (hr:=?_) | refine a_append0 (hr:=?_) | refine a_appendX (hr:=?_) | refine a_callF (hcall := q) (hr:=?_) | refine a_callB (hcall := k0) (hr:=?_) | refine a_callP (p := 20) (hcall := k1) (hr:=?_) | refine a_callP (p := 20) (hcall := k2) (hr:=?_) | refine a_call0 (hcall := q1) (hr:=?_))
 | fail)
      all_goals ((refine zzr hQ ?_))
      all_goals (exact zzd)
    rw [if_neg h2]
    have h2' : e2 = 0 := by omega
    subst h2'
    clear h2
    obtain ⟨k, rfl⟩ : ∃ k : Nat, n = k := ⟨n.toNat, by omega⟩
    simp only [Int.toNat_natCast]
    obtain ⟨R, hR⟩ : ∃ R, tkNd nm (nodesS k 0 (l2, 0) []) = R := ⟨_, rfl⟩
    rw [hR]
    refine zzg (nt := 128) (rs := [.cell 2 25, .cell 3 43]) Tryd.func11 ?_; intro Q hQ hW
    repeat' (first
 | (with_reducible refine run_n ?_; with_reducible first | refine hK _ _ (by simp) ?_ | refine hK _ _ ?_; clear hK K)
 | (refine zzc ?_)
 | (with_reducible refine awp_regT (by kernel_rfl) ?_; intro K hK)
 | (with_reducible refine awp_regAM (id := 15) [(55, some 6), (61, some 6)] mixed (by kernel_rfl) (by kernel_rfl) ?_; intro K hK)
 | (with_reducible refine awp_regAM (id := 17) [(2, some 2), (3, some 3)] mixed (by kernel_rfl) (by kernel_rfl) ?_; intro K hK)
 | (with_reducible refine awp_regAM (id := 25) [(96, some 6), (102, some 6)] mixed (by kernel_rfl) (by kernel_rfl) ?_; intro K hK)
 | (with_reducible refine awp_regAM (id := 27) [(2, some 2), (3, some 3)] mixed (by kernel_rfl) (by kernel_rfl) ?_; intro K hK)
 | (with_reducible refine a_cond (ht := ?_) (hf := ?_) <;> intro hb <;> (try simp at hb) <;> (try contradiction) <;> (try subst hb) <;> (try omega))
 | (with_reducible first | refine a_move (hr:=?_) | refine a_assign (hr:=?_) | refine a_load (hr:=?_) | refine a_fieldAddr (hr:=?_) | refine a_nilCheck (hr:=?_) | refine a_bin (hr:=?_) | refine a_lenS (hr:=?_) | refine a_lenR (hr:=?_) | refine a_extract (hr:=?_) | refine a_store (hr:=?_) | refine a_alloc (hr:=?_) | refine a_neB (hr:=?_) | refine a_conv (hr:=?_) | refine a_bytesStr (hr:=?_) | refine a_strBytes (hr:=?_) | refine a_sameSl (hr:=?_) | refine a_sliceArr (hr:=?_) | refine a_neS (hr:=?_) | refine a_sliceS (hr:=?_) | refine a_sliceR (hr:=?_) | refine a_build (hr:=?_) | refine a_buildSlice (hr:=?_) | refine a_append (hr:=?_) | refine a_append0 (hr:=?_) | refine a_appendX (hr:=?_) | refine a_callF (hcall := q) (hr:=?_) | refine a_callB (hcall := k0) (hr:=?_) | refine a_callP (p := 20) (hcall := k1) (hr:=?_) | refine a_callP (p := 20) (hcall := k2) (hr:=?_))
 | fail)
    have start : NdI k (l2, 0) 0 l2 [] := ⟨Nat.zero_le _, rfl, b2, n2, rfl⟩
    refine awp_inv (α := Nat × List Int × List NodeV) (fun s => [(2, .ptr 2 0), (3, .ptr 3 0), (5, .ptr 20 0), (6, .ptr 6 0), (51, .raw (.int .i64 k)), (52, .raw (.int .i64 s.1))]) (fun s => ohp 170 8 (s.2.2.map nodeAV) (hpL [(2, .box (.agg [.raw (.string ⟨#[]⟩), .raw (.slice none 0 0), .raw (.slice none 0 0)])), (3, .box (.agg [.raw (.bool false), .raw (.slice none 0 0), .raw (.int .i64 0), .raw (.bool false), .agg [.raw (.string ⟨#[]⟩), .raw (.string ⟨#[]⟩)]])), (6, .box (.agg [.raw (.string nm), orow 170 8 (s.2.2.map nodeAV), .raw (.slice none 0 0)])), (20, .box (rfAV s.2.1 0))])) (fun s => NdI k (l2, 0) s.1 s.2.1 s.2.2) (fun s => k - s.1) (0, l2, []) start (zzw) ?_
    clear start k0 k1 k2 q
    rintro ⟨i, l3, ns⟩ g
    simp only at g ⊢
    have gl := g.len
    have gle := g.le
    rcases Nat.lt_or_ge i k with hlt | hge
    · have k3 := c_r14node (l := l3) 0 g.isB g.ln
      have b3 := isB_nodeS (e := 0) g.isB
      have n3 := ln_nodeS (e := 0) g.ln
      have gn := fun h => g.next hlt h b3 n3
      have gs := g.stop hlt
      have v2 := c_r13Place nodeT i (by decide) (by omega)
      clear g b3 n3
      rw [← place10] at v2
      generalize nodeS (l3, 0) = r at k3 gn gs
      obtain ⟨v, cc, l4, e4⟩ := r
      simp only at k3 gn gs
      generalize wrE cc e4 = ee at k3 gn gs
      by_cases hee : ee = 0
      · subst hee
        have gn' := gn rfl
        clear gn gs hR
        repeat' (first
 | (with_reducible refine run_n ?_; with_reducible first | refine hK _ _ (by simp) ?_ | refine hK _ _ ?_; clear hK K)
 | (refine zzc ?_)
 | (with_reducible refine awp_regT (by kernel_rfl) ?_; intro K hK)
 | (with_reducible refine awp_regCM (id := 15) [(55, some 6), (61, some 6)] [(55, some 6), (57, some 20), (61, some 6)] mixed (by kernel_rfl) (by kernel_rfl) (by kernel_rfl) ?_; intro K hK)
 | (with_reducible refine awp_regCM (id := 17) [(2, some 2), (3, some 3)] [(2, some 2), (3, some 3), (67, none), (68, none), (71, some 20), (72, none)] mixed (by kernel_rfl) (by kernel_rfl) (by kernel_rfl) ?_; intro K hK)
 | (with_reducible refine awp_regCM (id := 25) [(96, some 6), (102, some 6)] [(96, some 6), (98, some 20), (102, some 6)] mixed (by kernel_rfl) (by kernel_rfl) (by kernel_rfl) ?_; intro K hK)
 | (with_reducible refine awp_regCM (id := 27) [(2, some 2), (3, some 3)] [(2, some 2), (3, some 3), (108, none), (109, none), (112, some 20), (113, none)] mixed (by kernel_rfl) (by kernel_rfl) (by kernel_rfl) ?_; intro K hK)
 | (with_reducible refine a_cond (ht := ?_) (hf := ?_) <;> intro hb <;> (try simp at hb) <;> (try contradiction) <;> (try subst hb) <;> (try omega))
 | (with_reducible first | refine a_move (hr:=?_) | refine a_assign (hr:=?_) | refine a_load (hr:=?_) | refine a_fieldAddr (hr:=?_) | refine a_nilCheck (hr:=?_) | refine a_bin (hr:=?_) | refine a_lenS (hr:=?_) | refine a_lenR (hr:=?_) | refine a_extract (hr:=?_) | refine a_store (hr:=?_) | refine a_alloc (hr:=?_) | refine a_neB (hr:=?_) | refine a_conv (hr:=?_) | refine a_bytesStr (hr:=?_) | refine a_strBytes (hr:=?_) | refine a_sameSl (hr:=?_) | refine a_sliceArr (hr:=?_) | refine a_neS (hr:=?_) | refine a_sliceS (hr:=?_) | refine a_sliceR (hr:=?_) | refine a_build (hr:=?_) | refine a_buildSlice (hr:=?_) | refine a_append (hr:=?_) | refine a_append0 (hr:=?_) | refine a_appendX (hr:=?_) | refine a_callP (p := 20) (hcall := k3) (hr:=?_))
 | fail)
        exact ⟨(i + 1, l4, ns ++ [v]), by simp only; omega, gn', by rw [List.map_append]; exact zzx 170 60⟩
      · rw [gs hee] at hR
        subst hR
        clear gn gs
        have v3 := c_r14bad (placeT nodeT i) ee hee
        simp only [tkNd, reK, rePl, RE.av, plAV_nil, plAV_cons] at v3 hQ ⊢
        unfold DefV.z at v3 hQ
        generalize placeT nodeT i = pp at v2 v3 hQ
        repeat' (first
 | (with_reducible refine run_n ?_; with_reducible first | refine hK _ _ (by simp) ?_ | refine hK _ _ ?_; clear hK K)
 | (refine zzc ?_)
 | (with_reducible refine awp_regT (by kernel_rfl) ?_; intro K hK)
 | (with_reducible refine awp_regCM (id := 15) [(55, some 6), (61, some 6)] [(55, some 6), (57, some 20), (61, some 6)] mixed (by kernel_rfl) (by kernel_rfl) (by kernel_rfl) ?_; intro K hK)
 | (with_reducible refine awp_regCM (id := 17) [(2, some 2), (3, some 3)] [(2, some 2), (3, some 3), (67, none), (68, none), (71, some 20), (72, none)] mixed (by kernel_rfl) (by kernel_rfl) (by kernel_rfl) ?_; intro K hK)
 | (with_reducible refine awp_regCM (id := 25) [(96, some 6), (102, some 6)] [(96, some 6), (98, some 20), (102, some 6)] mixed (by kernel_rfl) (by kernel_rfl) (by kernel_rfl) ?_; intro K hK)
 | (with_reducible refine awp_regCM (id := 27) [(2, some 2), (3, some 3)] [(2, some 2), (3, some 3), (108, none), (109, none), (112, some 20), (113, none)] mixed (by kernel_rfl) (by kernel_rfl) (by kernel_rfl) ?_; intro K hK)
 | (with_reducible refine a_cond (ht := ?_) (hf := ?_) <;> intro hb <;> (try simp at hb) <;> (try contradiction) <;> (try subst hb) <;> (try omega))
 | (with_reducible first | refine a_move (hr:=?_) | refine a_assign (hr:=?_) | refine a_load (hr:=?_) | refine a_fieldAddr (hr:=?_) | refine a_nilCheck (hr:=?_) | refine a_bin (hr:=?_) | refine a_lenS (hr:=?_) | refine a_lenR (hr:=?_) | refine a_extract (hr:=?_) | refine a_store (hr:=?_) | refine a_alloc (hr:=?_) | refine a_neB (hr:=?_) | refine a_conv (hr:=?_) | refine a_bytesStr (hr:=?_) | refine a_strBytes (hr:=?_) | refine a_sameSl (hr:=?_) | refine a_sliceArr (hr:=?_) | refine a_neS (hr:=?_) | refine a_sliceS (hr:=?_) | refine a_sliceR (hr:=?_) | refine a_build (hr:=?_) | refine a_buildSlice (hr:=?_) | refine a_append (hr:=?_) | refine a_append0 (hr:=?_) | refine a_appendX (hr:=?_) | refine a_callP (p := 20) (hcall := k3) (hr:=?_) | refine a_call0 (hcall := v2) (hr:=?_) | refine a_call0 (hcall := v3) (hr:=?_))
 | fail)
        all_goals ((refine zzr hQ ?_))
        all_goals (exact zzd)
    have hik : i = k := by omega
    subst hik
    have gg := g.go
    rw [Nat.sub_self, nodesS] at gg
    rw [← gg] at hR
    have b3 := g.isB
    have n3 := g.ln
    have k2 := y_U (l := l3) 0 80 b3 n3
    have w2 := r_U b3 0 (most := 80) (by omega)
    have b4 := isB_sU (e := 0) (most := 80) b3
    have n4 := ln_sU (e := 0) (most := 80) n3
    clear g gg
    simp only [tkNd] at hR
    generalize sU 80 (l3, 0) = r at k2 w2 b4 n4 hR
    obtain ⟨n, l4, e2⟩ := r
    simp only at k2 w2 b4 n4 hR
    by_cases h2 : e2 ≠ 0
    · rw [if_pos h2] at hR
      subst hR
      have q1 := c_r14bad ⟨#[102, 108, 111, 119, 115]⟩ e2 h2
      simp only [reK, rePl, RE.av, plAV_nil, plAV_cons] at q1 hQ ⊢
      rw [show flowT ++ ⟨#[115]⟩ = (⟨#[102, 108, 111, 119, 115]⟩ : ByteArray) from rfl] at hQ
      unfold DefV.z at q1 hQ
      clear b3 b4 n3 n4
      repeat' (first
 | (with_reducible refine run_n ?_; with_reducible first | refine hK _ _ (by simp) ?_ | refine hK _ _ ?_; clear hK K)
 | (refine zzc ?_)
 | (with_reducible refine awp_regT (by kernel_rfl) ?_; intro K hK)
 | (with_reducible refine awp_regCM (id := 15) [(55, some 6), (61, some 6)] [(55, some 6), (57, some 20), (61, some 6)] mixed (by kernel_rfl) (by kernel_rfl) (by kernel_rfl) ?_; intro K hK)
 | (with_reducible refine awp_regCM (id := 17) [(2, some 2), (3, some 3)] [(2, some 2), (3, some 3), (67, none), (68, none), (71, some 20), (72, none)] mixed (by kernel_rfl) (by kernel_rfl) (by kernel_rfl) ?_; intro K hK)
 | (with_reducible refine awp_regCM (id := 25) [(96, some 6), (102, some 6)] [(96, some 6), (98, some 20), (102, some 6)] mixed (by kernel_rfl) (by kernel_rfl) (by kernel_rfl) ?_; intro K hK)
 | (with_reducible refine awp_regCM (id := 27) [(2, some 2), (3, some 3)] [(2, some 2), (3, some 3), (108, none), (109, none), (112, some 20), (113, none)] mixed (by kernel_rfl) (by kernel_rfl) (by kernel_rfl) ?_; intro K hK)
 | (with_reducible refine a_cond (ht := ?_) (hf := ?_) <;> intro hb <;> (try simp at hb) <;> (try contradiction) <;> (try subst hb) <;> (try omega))
 | (with_reducible first | refine a_move (hr:=?_) | refine a_assign (hr:=?_) | refine a_load (hr:=?_) | refine a_fieldAddr (hr:=?_) | refine a_nilCheck (hr:=?_) | refine a_bin (hr:=?_) | refine a_lenS (hr:=?_) | refine a_lenR (hr:=?_) | refine a_extract (hr:=?_) | refine a_store (hr:=?_) | refine a_alloc (hr:=?_) | refine a_neB (hr:=?_) | refine a_conv (hr:=?_) | refine a_bytesStr (hr:=?_) | refine a_strBytes (hr:=?_) | refine a_sameSl (hr:=?_) | refine a_sliceArr (hr:=?_) | refine a_neS (hr:=?_) | refine a_sliceS (hr:=?_) | refine a_sliceR (hr:=?_) | refine a_build (hr:=?_) | refine a_buildSlice (hr:=?_) | refine a_append (hr:=?_) | refine a_append0 (hr:=?_) | refine a_appendX (hr:=?_) | refine a_callP (p := 20) (hcall := k2) (hr:=?_) | refine a_call0 (hcall := q1) (hr:=?_))
 | fail)
      all_goals ((refine zzr hQ ?_))
      all_goals (exact zzd)
    rw [if_neg h2] at hR
    have h2' : e2 = 0 := by omega
    subst h2'
    clear h2
    obtain ⟨k', rfl⟩ : ∃ k : Nat, n = k := ⟨n.toNat, by omega⟩
    simp only [Int.toNat_natCast] at hR
    repeat' (first
 | (with_reducible refine run_n ?_; with_reducible first | refine hK _ _ (by simp) ?_ | refine hK _ _ ?_; clear hK K)
 | (refine zzc ?_)
 | (with_reducible refine awp_regT (by kernel_rfl) ?_; intro K hK)
 | (with_reducible refine awp_regCM (id := 15) [(55, some 6), (61, some 6)] [(55, some 6), (57, some 20), (61, some 6)] mixed (by kernel_rfl) (by kernel_rfl) (by kernel_rfl) ?_; intro K hK)
 | (with_reducible refine awp_regCM (id := 17) [(2, some 2), (3, some 3)] [(2, some 2), (3, some 3), (67, none), (68, none), (71, some 20), (72, none)] mixed (by kernel_rfl) (by kernel_rfl) (by kernel_rfl) ?_; intro K hK)
 | (with_reducible refine awp_regCM (id := 25) [(96, some 6), (102, some 6)] [(96, some 6), (98, some 20), (102, some 6)] mixed (by kernel_rfl) (by kernel_rfl) (by kernel_rfl) ?_; intro K hK)
 | (with_reducible refine awp_regCM (id := 27) [(2, some 2), (3, some 3)] [(2, some 2), (3, some 3), (108, none), (109, none), (112, some 20), (113, none)] mixed (by kernel_rfl) (by kernel_rfl) (by kernel_rfl) ?_; intro K hK)
 | (with_reducible refine a_cond (ht := ?_) (hf := ?_) <;> intro hb <;> (try simp at hb) <;> (try contradiction) <;> (try subst hb) <;> (try omega))
 | (with_reducible first | refine a_move (hr:=?_) | refine a_assign (hr:=?_) | refine a_load (hr:=?_) | refine a_fieldAddr (hr:=?_) | refine a_nilCheck (hr:=?_) | refine a_bin (hr:=?_) | refine a_lenS (hr:=?_) | refine a_lenR (hr:=?_) | refine a_extract (hr:=?_) | refine a_store (hr:=?_) | refine a_alloc (hr:=?_) | refine a_neB (hr:=?_) | refine a_conv (hr:=?_) | refine a_bytesStr (hr:=?_) | refine a_strBytes (hr:=?_) | refine a_sameSl (hr:=?_) | refine a_sliceArr (hr:=?_) | refine a_neS (hr:=?_) | refine a_sliceS (hr:=?_) | refine a_sliceR (hr:=?_) | refine a_build (hr:=?_) | refine a_buildSlice (hr:=?_) | refine a_append (hr:=?_) | refine a_append0 (hr:=?_) | refine a_appendX (hr:=?_) | refine a_callP (p := 20) (hcall := k2) (hr:=?_))
 | fail)
    have start : FlI k' (l4, 0) 0 l4 [] := ⟨Nat.zero_le _, rfl, b4, n4, rfl⟩
    refine awp_inv (α := Nat × List Int × List FlowV) (fun s => [(2, .ptr 2 0), (3, .ptr 3 0), (5, .ptr 20 0), (6, .ptr 6 0), (92, .raw (.int .i64 k')), (93, .raw (.int .i64 s.1))]) (fun s => ohp 170 8 (ns.map nodeAV) (ohp 171 4 (s.2.2.map flowAV) (hpL [(2, .box (.agg [.raw (.string ⟨#[]⟩), .raw (.slice none 0 0), .raw (.slice none 0 0)])), (3, .box (.agg [.raw (.bool false), .raw (.slice none 0 0), .raw (.int .i64 0), .raw (.bool false), .agg [.raw (.string ⟨#[]⟩), .raw (.string ⟨#[]⟩)]])), (6, .box (.agg [.raw (.string nm), orow 170 8 (ns.map nodeAV), orow 171 4 (s.2.2.map flowAV)])), (20, .box (rfAV s.2.1 0))]))) (fun s => FlI k' (l4, 0) s.1 s.2.1 s.2.2) (fun s => k' - s.1) (0, l4, []) start (zzw) ?_
    clear start k2 b3 b4 n3 n4
    rintro ⟨j, l5, fs⟩ g
    simp only at g ⊢
    have gl := g.len
    have gle := g.le
    rcases Nat.lt_or_ge j k' with hlt | hge
    · have k3 := c_r14flow (l := l5) 0 g.isB g.ln
      have b3 := isB_flowS (e := 0) g.isB
      have n3 := ln_flowS (e := 0) g.ln
      have gn := fun h => g.next hlt h b3 n3
      have gs := g.stop hlt
      have v2 := c_r13Place flowT j (by decide) (by omega)
      clear g b3 n3
      rw [← place10] at v2
      generalize flowS (l5, 0) = r at k3 gn gs
      obtain ⟨v, cc, l6, e4⟩ := r
      simp only at k3 gn gs
      generalize wrE cc e4 = ee at k3 gn gs
      by_cases hee : ee = 0
      · subst hee
        have gn' := gn rfl
        clear gn gs hR
        repeat' (first
 | (with_reducible refine run_n ?_; with_reducible first | refine hK _ _ (by simp) ?_ | refine hK _ _ ?_; clear hK K)
 | (refine zzc ?_)
 | (with_reducible refine awp_regT (by kernel_rfl) ?_; intro K hK)
 | (with_reducible refine awp_regCM (id := 15) [(55, some 6), (61, some 6)] [(55, some 6), (57, some 20), (61, some 6)] mixed (by kernel_rfl) (by kernel_rfl) (by kernel_rfl) ?_; intro K hK)
 | (with_reducible refine awp_regCM (id := 17) [(2, some 2), (3, some 3)] [(2, some 2), (3, some 3), (67, none), (68, none), (71, some 20), (72, none)] mixed (by kernel_rfl) (by kernel_rfl) (by kernel_rfl) ?_; intro K hK)
 | (with_reducible refine awp_regCM (id := 25) [(96, some 6), (102, some 6)] [(96, some 6), (98, some 20), (102, some 6)] mixed (by kernel_rfl) (by kernel_rfl) (by kernel_rfl) ?_; intro K hK)
 | (with_reducible refine awp_regCM (id := 27) [(2, some 2), (3, some 3)] [(2, some 2), (3, some 3), (108, none), (109, none), (112, some 20), (113, none)] mixed (by kernel_rfl) (by kernel_rfl) (by kernel_rfl) ?_; intro K hK)
 | (with_reducible refine a_cond (ht := ?_) (hf := ?_) <;> intro hb <;> (try simp at hb) <;> (try contradiction) <;> (try subst hb) <;> (try omega))
 | (with_reducible first | refine a_move (hr:=?_) | refine a_assign (hr:=?_) | refine a_load (hr:=?_) | refine a_fieldAddr (hr:=?_) | refine a_nilCheck (hr:=?_) | refine a_bin (hr:=?_) | refine a_lenS (hr:=?_) | refine a_lenR (hr:=?_) | refine a_extract (hr:=?_) | refine a_store (hr:=?_) | refine a_alloc (hr:=?_) | refine a_neB (hr:=?_) | refine a_conv (hr:=?_) | refine a_bytesStr (hr:=?_) | refine a_strBytes (hr:=?_) | refine a_sameSl (hr:=?_) | refine a_sliceArr (hr:=?_) | refine a_neS (hr:=?_) | refine a_sliceS (hr:=?_) | refine a_sliceR (hr:=?_) | refine a_build (hr:=?_) | refine a_buildSlice (hr:=?_) | refine a_append (hr:=?_) | refine a_append0 (hr:=?_) | refine a_appendX (hr:=?_) | refine a_callP (p := 20) (hcall := k3) (hr:=?_))
 | fail)
        exact ⟨(j + 1, l6, fs ++ [v]), by simp only; omega, gn', by rw [List.map_append]; exact zzx 171 101⟩
      · rw [gs hee] at hR
        subst hR
        clear gn gs
        have v3 := c_r14bad (placeT flowT j) ee hee
        simp only [tkFl, reK, rePl, RE.av, plAV_nil, plAV_cons] at v3 hQ ⊢
        unfold DefV.z at v3 hQ
        generalize placeT flowT j = pp at v2 v3 hQ
        repeat' (first
 | (with_reducible refine run_n ?_; with_reducible first | refine hK _ _ (by simp) ?_ | refine hK _ _ ?_; clear hK K)
 | (refine zzc ?_)
 | (with_reducible refine awp_regT (by kernel_rfl) ?_; intro K hK)
 | (with_reducible refine awp_regCM (id := 15) [(55, some 6), (61, some 6)] [(55, some 6), (57, some 20), (61, some 6)] mixed (by kernel_rfl) (by kernel_rfl) (by kernel_rfl) ?_; intro K hK)
 | (with_reducible refine awp_regCM (id := 17) [(2, some 2), (3, some 3)] [(2, some 2), (3, some 3), (67, none), (68, none), (71, some 20), (72, none)] mixed (by kernel_rfl) (by kernel_rfl) (by kernel_rfl) ?_; intro K hK)
 | (with_reducible refine awp_regCM (id := 25) [(96, some 6), (102, some 6)] [(96, some 6), (98, some 20), (102, some 6)] mixed (by kernel_rfl) (by kernel_rfl) (by kernel_rfl) ?_; intro K hK)
 | (with_reducible refine awp_regCM (id := 27) [(2, some 2), (3, some 3)] [(2, some 2), (3, some 3), (108, none), (109, none), (112, some 20), (113, none)] mixed (by kernel_rfl) (by kernel_rfl) (by kernel_rfl) ?_; intro K hK)
 | (with_reducible refine a_cond (ht := ?_) (hf := ?_) <;> intro hb <;> (try simp at hb) <;> (try contradiction) <;> (try subst hb) <;> (try omega))
 | (with_reducible first | refine a_move (hr:=?_) | refine a_assign (hr:=?_) | refine a_load (hr:=?_) | refine a_fieldAddr (hr:=?_) | refine a_nilCheck (hr:=?_) | refine a_bin (hr:=?_) | refine a_lenS (hr:=?_) | refine a_lenR (hr:=?_) | refine a_extract (hr:=?_) | refine a_store (hr:=?_) | refine a_alloc (hr:=?_) | refine a_neB (hr:=?_) | refine a_conv (hr:=?_) | refine a_bytesStr (hr:=?_) | refine a_strBytes (hr:=?_) | refine a_sameSl (hr:=?_) | refine a_sliceArr (hr:=?_) | refine a_neS (hr:=?_) | refine a_sliceS (hr:=?_) | refine a_sliceR (hr:=?_) | refine a_build (hr:=?_) | refine a_buildSlice (hr:=?_) | refine a_append (hr:=?_) | refine a_append0 (hr:=?_) | refine a_appendX (hr:=?_) | refine a_callP (p := 20) (hcall := k3) (hr:=?_) | refine a_call0 (hcall := v2) (hr:=?_) | refine a_call0 (hcall := v3) (hr:=?_))
 | fail)
        all_goals ((refine zzr hQ ?_))
        all_goals (exact zzd)
    have hik : j = k' := by omega
    subst hik
    have gg := g.go
    rw [Nat.sub_self, flowsS] at gg
    rw [← gg] at hR
    clear g gg
    simp only [tkFl] at hR
    by_cases h5 : l5 = []
    · subst h5
      rw [if_pos rfl] at hR
      subst hR
      simp only [reK, RE.av, plAV_nil] at hQ ⊢
      repeat' (first
 | (with_reducible refine run_n ?_; with_reducible first | refine hK _ _ (by simp) ?_ | refine hK _ _ ?_; clear hK K)
 | (refine zzc ?_)
 | (with_reducible refine awp_regT (by kernel_rfl) ?_; intro K hK)
 | (with_reducible refine awp_regCM (id := 15) [(55, some 6), (61, some 6)] [(55, some 6), (57, some 20), (61, some 6)] mixed (by kernel_rfl) (by kernel_rfl) (by kernel_rfl) ?_; intro K hK)
 | (with_reducible refine awp_regCM (id := 17) [(2, some 2), (3, some 3)] [(2, some 2), (3, some 3), (67, none), (68, none), (71, some 20), (72, none)] mixed (by kernel_rfl) (by kernel_rfl) (by kernel_rfl) ?_; intro K hK)
 | (with_reducible refine awp_regCM (id := 25) [(96, some 6), (102, some 6)] [(96, some 6), (98, some 20), (102, some 6)] mixed (by kernel_rfl) (by kernel_rfl) (by kernel_rfl) ?_; intro K hK)
 | (with_reducible refine awp_regCM (id := 27) [(2, some 2), (3, some 3)] [(2, some 2), (3, some 3), (108, none), (109, none), (112, some 20), (113, none)] mixed (by kernel_rfl) (by kernel_rfl) (by kernel_rfl) ?_; intro K hK)
 | (with_reducible refine a_cond (ht := ?_) (hf := ?_) <;> intro hb <;> (try simp at hb) <;> (try contradiction) <;> (try subst hb) <;> (try omega))
 | (with_reducible first | refine a_move (hr:=?_) | refine a_assign (hr:=?_) | refine a_load (hr:=?_) | refine a_fieldAddr (hr:=?_) | refine a_nilCheck (hr:=?_) | refine a_bin (hr:=?_) | refine a_lenS (hr:=?_) | refine a_lenR (hr:=?_) | refine a_extract (hr:=?_) | refine a_store (hr:=?_) | refine a_alloc (hr:=?_) | refine a_neB (hr:=?_) | refine a_conv (hr:=?_) | refine a_bytesStr (hr:=?_) | refine a_strBytes (hr:=?_) | refine a_sameSl (hr:=?_) | refine a_sliceArr (hr:=?_) | refine a_neS (hr:=?_) | refine a_sliceS (hr:=?_) | refine a_sliceR (hr:=?_) | refine a_build (hr:=?_) | refine a_buildSlice (hr:=?_) | refine a_append (hr:=?_) | refine a_append0 (hr:=?_) | refine a_appendX (hr:=?_))
 | fail)
      all_goals ((refine zzr hQ ?_))
      all_goals (exact fin_defL (by intro hne; simp at hne; simp [hne]) (by intro hne; simp at hne; simp [hne]) (by simp))
    · rw [if_neg h5] at hR
      subst hR
      have hp := List.length_pos_iff.2 h5
      have q1 := c_ROf 10
      simp only [reK, RE.av, plAV_nil] at q1 hQ ⊢
      unfold DefV.z at hQ
      repeat' (first
 | (with_reducible refine run_n ?_; with_reducible first | refine hK _ _ (by simp) ?_ | refine hK _ _ ?_; clear hK K)
 | (refine zzc ?_)
 | (with_reducible refine awp_regT (by kernel_rfl) ?_; intro K hK)
 | (with_reducible refine awp_regCM (id := 15) [(55, some 6), (61, some 6)] [(55, some 6), (57, some 20), (61, some 6)] mixed (by kernel_rfl) (by kernel_rfl) (by kernel_rfl) ?_; intro K hK)
 | (with_reducible refine awp_regCM (id := 17) [(2, some 2), (3, some 3)] [(2, some 2), (3, some 3), (67, none), (68, none), (71, some 20), (72, none)] mixed (by kernel_rfl) (by kernel_rfl) (by kernel_rfl) ?_; intro K hK)
 | (with_reducible refine awp_regCM (id := 25) [(96, some 6), (102, some 6)] [(96, some 6), (98, some 20), (102, some 6)] mixed (by kernel_rfl) (by kernel_rfl) (by kernel_rfl) ?_; intro K hK)
 | (with_reducible refine awp_regCM (id := 27) [(2, some 2), (3, some 3)] [(2, some 2), (3, some 3), (108, none), (109, none), (112, some 20), (113, none)] mixed (by kernel_rfl) (by kernel_rfl) (by kernel_rfl) ?_; intro K hK)
 | (with_reducible refine a_cond (ht := ?_) (hf := ?_) <;> intro hb <;> (try simp at hb) <;> (try contradiction) <;> (try subst hb) <;> (try omega))
 | (with_reducible first | refine a_move (hr:=?_) | refine a_assign (hr:=?_) | refine a_load (hr:=?_) | refine a_fieldAddr (hr:=?_) | refine a_nilCheck (hr:=?_) | refine a_bin (hr:=?_) | refine a_lenS (hr:=?_) | refine a_lenR (hr:=?_) | refine a_extract (hr:=?_) | refine a_store (hr:=?_) | refine a_alloc (hr:=?_) | refine a_neB (hr:=?_) | refine a_conv (hr:=?_) | refine a_bytesStr (hr:=?_) | refine a_strBytes (hr:=?_) | refine a_sameSl (hr:=?_) | refine a_sliceArr (hr:=?_) | refine a_neS (hr:=?_) | refine a_sliceS (hr:=?_) | refine a_sliceR (hr:=?_) | refine a_build (hr:=?_) | refine a_buildSlice (hr:=?_) | refine a_append (hr:=?_) | refine a_append0 (hr:=?_) | refine a_appendX (hr:=?_) | refine a_call0 (hcall := q1) (hr:=?_))
 | fail)
      all_goals ((refine zzr hQ ?_))
      all_goals (exact (Fin.drop (by simp; exact .r) (by simp)).trans Fin.zD)
  · rw [show takeD l = (DefV.z, .at_ 0 0 (headE l)) from if_pos h0]
    have q1 := c_r14bad headT (headE l) h0
    simp only [reK]
    generalize headE l = c at q q1 h0 ⊢
    simp only [rePl, RE.av, plAV_nil, plAV_cons] at q1 ⊢
    unfold DefV.z at q1 ⊢
    refine zzg (nt := 128) (rs := [.cell 2 25, .cell 3 43]) Tryd.func11 ?_; intro Q hQ hW
    repeat' (first
 | (with_reducible refine run_n ?_; with_reducible first | refine hK _ _ (by simp) ?_ | refine hK _ _ ?_; clear hK K)
 | (refine zzc ?_)
 | (with_reducible refine awp_regT (by kernel_rfl) ?_; intro K hK)
 | (with_reducible refine awp_regAM (id := 15) [(55, some 6), (61, some 6)] mixed (by kernel_rfl) (by kernel_rfl) ?_; intro K hK)
 | (with_reducible refine awp_regAM (id := 17) [(2, some 2), (3, some 3)] mixed (by kernel_rfl) (by kernel_rfl) ?_; intro K hK)
 | (with_reducible refine awp_regAM (id := 25) [(96, some 6), (102, some 6)] mixed (by kernel_rfl) (by kernel_rfl) ?_; intro K hK)
 | (with_reducible refine awp_regAM (id := 27) [(2, some 2), (3, some 3)] mixed (by kernel_rfl) (by kernel_rfl) ?_; intro K hK)
 | (with_reducible refine a_cond (ht := ?_) (hf := ?_) <;> intro hb <;> (try simp at hb) <;> (try contradiction) <;> (try subst hb) <;> (try omega))
 | (with_reducible first | refine a_move (hr:=?_) | refine a_assign (hr:=?_) | refine a_load (hr:=?_) | refine a_fieldAddr (hr:=?_) | refine a_nilCheck (hr:=?_) | refine a_bin (hr:=?_) | refine a_lenS (hr:=?_) | refine a_lenR (hr:=?_) | refine a_extract (hr:=?_) | refine a_store (hr:=?_) | refine a_alloc (hr:=?_) | refine a_neB (hr:=?_) | refine a_conv (hr:=?_) | refine a_bytesStr (hr:=?_) | refine a_strBytes (hr:=?_) | refine a_sameSl (hr:=?_) | refine a_sliceArr (hr:=?_) | refine a_neS (hr:=?_) | refine a_sliceS (hr:=?_) | refine a_sliceR (hr:=?_) | refine a_build (hr:=?_) | refine a_buildSlice (hr:=?_) | refine a_append (hr:=?_) | refine a_append0 (hr:=?_) | refine a_appendX (hr:=?_) | refine a_callF (hcall := q) (hr:=?_) | refine a_call0 (hcall := q1) (hr:=?_))
 | fail)
    all_goals ((refine zzr hQ ?_))
    all_goals (exact zzd)
end Go.Proofs.YtejeemhenoobjaaDoor.Asl

namespace Go.Proofs.YtejeemhenoobjaaDoor.Asl
open Go Go.RowKit
set_option linter.unusedVariables false
set_option linter.unusedSimpArgs false
set_option maxRecDepth 100000
set_option maxHeartbeats 4000000
abbrev wrAV (n : Nat) (long arg : Bool) : AV := .agg [.ow 200000 1 0 n, .raw (.bool long), .raw (.bool arg)]
abbrev wrH (b : List Int) (long arg : Bool) : Hp := rH 200000 1 (u8s b) (wrAV b.length long arg)
theorem c_bit (b : Bool) : CallD Tryd.prog 18 [.raw (.bool b)] noHeap (.raw (.int .u8 (bitI b))) noHeap := by
  cases b with
  | true =>
    refine zzg (nt := 4) (rs := [.tmp 2]) Tryd.func18 ?_; intro Q hQ hW
    repeat' (first
 | (with_reducible refine run_n ?_; with_reducible first | refine hK _ _ (by simp) ?_ | refine hK _ _ ?_; clear hK K)
 | (refine zzc ?_)
 | (with_reducible refine awp_regT (by kernel_rfl) ?_; intro K hK)
 | (with_reducible refine a_cond (ht := ?_) (hf := ?_) <;> intro hb <;> (try simp at hb) <;> (try contradiction) <;> (try subst hb) <;> (try omega))
 | (with_reducible first | refine a_move (hr:=?_) | refine a_assign (hr:=?_))
 | fail)
    all_goals ((refine zzr hQ ?_))
    all_goals (exact zzd)
  | false =>
    refine zzg (nt := 4) (rs := [.tmp 2]) Tryd.func18 ?_; intro Q hQ hW
    repeat' (first
 | (with_reducible refine run_n ?_; with_reducible first | refine hK _ _ (by simp) ?_ | refine hK _ _ ?_; clear hK K)
 | (refine zzc ?_)
 | (with_reducible refine awp_regT (by kernel_rfl) ?_; intro K hK)
 | (with_reducible refine a_cond (ht := ?_) (hf := ?_) <;> intro hb <;> (try simp at hb) <;> (try contradiction) <;> (try subst hb) <;> (try omega))
 | (with_reducible first | refine a_move (hr:=?_) | refine a_assign (hr:=?_))
 | fail)
    all_goals ((refine zzr hQ ?_))
    all_goals (exact zzd)
theorem c_wtext (b : List Int) (long arg : Bool) (s : ByteArray) (hs : s.size ≤ 1000000) (hb0 : b ≠ []) (hl : b.length ≤ 100000000) : CallG Tryd.prog 16 [.ptr 100001 0, .raw (.string s)] (wrH b long arg) (.tup []) (wrH (b ++ txtL s) (long || decide (128 < s.size)) arg) := by
  have q := c_WText s (by omega)
  have htl := txtL_len s
  have hne : u8s b ≠ [] := by simpa using hb0
  have htn : txtL s ≠ [] := by
    have := (enc_len 9 s.size).2
    intro h
    rw [show txtL s = enc 9 s.size ++ bytesOf s from rfl, List.append_eq_nil_iff] at h
    rw [h.1] at this; simp at this
  have ht : enc 9 s.size ++ bytesOf s = txtL s := rfl
  rw [ht] at q
  generalize txtL s = t at q htl htn ⊢
  clear ht
  by_cases h128 : 128 < s.size
  · rw [decide_eq_true h128, Bool.or_true]
    have hd : decide ((128 : Int) < s.size) = true := decide_eq_true (by omega)
    refine calls_goG (nt := 26) (rs := []) Tryd.func16 rfl rfl rfl (by simp) hbig_rH ?_; intro Q hQ hW
    unfold wrH; rw [rH_ne hne]
    cases long with
    | true =>
      repeat' (first
 | (with_reducible refine run_n ?_; with_reducible first | refine hK _ _ (by simp) ?_ | refine hK _ _ ?_; clear hK K)
 | (refine zzc ?_)
 | (with_reducible refine awp_regT (by kernel_rfl) ?_; intro K hK)
 | (with_reducible refine awp_regAM (id := 1) [(19, some 100001), (25, some 100001)] mixed (by kernel_rfl) (by kernel_rfl) ?_; intro K hK)
 | (with_reducible refine a_cond (ht := ?_) (hf := ?_) <;> intro hb <;> (try simp at hb) <;> (try contradiction) <;> (try subst hb) <;> (try omega))
 | (with_reducible first | refine a_move (hr:=?_) | refine a_load (hr:=?_) | refine a_fieldAddr (hr:=?_) | refine a_nilCheck (hr:=?_) | refine a_bin (hr:=?_) | refine a_lenS (hr:=?_) | refine a_lenR (hr:=?_) | refine a_pick (hr:=?_) | refine a_store (hr:=?_) | refine a_append (hr:=?_) | refine a_append0 (hr:=?_) | refine a_appendX (hr:=?_) | refine a_callN (hcall := q) (hr:=?_) | refine a_gT (hr:=?_) | refine a_gF (hr:=?_) | refine a_gU (hr:=?_))
 | (with_reducible refine a_gB (hT := ?_) (hF := ?_) <;> intro hb <;> (try simp at hb) <;> (try contradiction) <;> (try subst hb) <;> (try omega))
 | fail)
      all_goals ((refine hQ _ _ _ _ (by first | exact .inr rfl | exact .inl rfl) (by simp; exact .r) (by simp; exact .r) ?_))
      all_goals (try rw [hd])
      all_goals (exact FinG.new (n := 23) (hXw := by simp [hb0]; exact .r))
    | false =>
      repeat' (first
 | (with_reducible refine run_n ?_; with_reducible first | refine hK _ _ (by simp) ?_ | refine hK _ _ ?_; clear hK K)
 | (refine zzc ?_)
 | (with_reducible refine awp_regT (by kernel_rfl) ?_; intro K hK)
 | (with_reducible refine awp_regAM (id := 1) [(19, some 100001), (25, some 100001)] mixed (by kernel_rfl) (by kernel_rfl) ?_; intro K hK)
 | (with_reducible refine a_cond (ht := ?_) (hf := ?_) <;> intro hb <;> (try simp at hb) <;> (try contradiction) <;> (try subst hb) <;> (try omega))
 | (with_reducible first | refine a_move (hr:=?_) | refine a_load (hr:=?_) | refine a_fieldAddr (hr:=?_) | refine a_nilCheck (hr:=?_) | refine a_bin (hr:=?_) | refine a_lenS (hr:=?_) | refine a_lenR (hr:=?_) | refine a_pick (hr:=?_) | refine a_store (hr:=?_) | refine a_append (hr:=?_) | refine a_append0 (hr:=?_) | refine a_appendX (hr:=?_) | refine a_callN (hcall := q) (hr:=?_) | refine a_gT (hr:=?_) | refine a_gF (hr:=?_) | refine a_gU (hr:=?_))
 | (with_reducible refine a_gB (hT := ?_) (hF := ?_) <;> intro hb <;> (try simp at hb) <;> (try contradiction) <;> (try subst hb) <;> (try omega))
 | fail)
      all_goals ((refine hQ _ _ _ _ (by first | exact .inr rfl | exact .inl rfl) (by simp; exact .r) (by simp; exact .r) ?_))
      all_goals (try rw [hd])
      all_goals (exact FinG.new (n := 23) (hXw := by simp [hb0]; exact .r))
  · rw [decide_eq_false h128, Bool.or_false]
    have hd : decide ((128 : Int) < s.size) = false := decide_eq_false (by omega)
    refine calls_goG (nt := 26) (rs := []) Tryd.func16 rfl rfl rfl (by simp) hbig_rH ?_; intro Q hQ hW
    unfold wrH; rw [rH_ne hne]
    cases long with
    | true =>
      repeat' (first
 | (with_reducible refine run_n ?_; with_reducible first | refine hK _ _ (by simp) ?_ | refine hK _ _ ?_; clear hK K)
 | (refine zzc ?_)
 | (with_reducible refine awp_regT (by kernel_rfl) ?_; intro K hK)
 | (with_reducible refine awp_regAM (id := 1) [(19, some 100001), (25, some 100001)] mixed (by kernel_rfl) (by kernel_rfl) ?_; intro K hK)
 | (with_reducible refine a_cond (ht := ?_) (hf := ?_) <;> intro hb <;> (try simp at hb) <;> (try contradiction) <;> (try subst hb) <;> (try omega))
 | (with_reducible first | refine a_move (hr:=?_) | refine a_load (hr:=?_) | refine a_fieldAddr (hr:=?_) | refine a_nilCheck (hr:=?_) | refine a_bin (hr:=?_) | refine a_lenS (hr:=?_) | refine a_lenR (hr:=?_) | refine a_pick (hr:=?_) | refine a_store (hr:=?_) | refine a_append (hr:=?_) | refine a_append0 (hr:=?_) | refine a_appendX (hr:=?_) | refine a_callN (hcall := q) (hr:=?_) | refine a_gT (hr:=?_) | refine a_gF (hr:=?_) | refine a_gU (hr:=?_))
 | (with_reducible refine a_gB (hT := ?_) (hF := ?_) <;> intro hb <;> (try simp at hb) <;> (try contradiction) <;> (try subst hb) <;> (try omega))
 | fail)
      all_goals ((refine hQ _ _ _ _ (by first | exact .inr rfl | exact .inl rfl) (by simp; exact .r) (by simp; exact .r) ?_))
      all_goals (try rw [hd])
      all_goals (exact FinG.new (n := 23) (hXw := by simp [hb0]; exact .r))
    | false =>
      repeat' (first
 | (with_reducible refine run_n ?_; with_reducible first | refine hK _ _ (by simp) ?_ | refine hK _ _ ?_; clear hK K)
 | (refine zzc ?_)
 | (with_reducible refine awp_regT (by kernel_rfl) ?_; intro K hK)
 | (with_reducible refine awp_regAM (id := 1) [(19, some 100001), (25, some 100001)] mixed (by kernel_rfl) (by kernel_rfl) ?_; intro K hK)
 | (with_reducible refine a_cond (ht := ?_) (hf := ?_) <;> intro hb <;> (try simp at hb) <;> (try contradiction) <;> (try subst hb) <;> (try omega))
 | (with_reducible first | refine a_move (hr:=?_) | refine a_load (hr:=?_) | refine a_fieldAddr (hr:=?_) | refine a_nilCheck (hr:=?_) | refine a_bin (hr:=?_) | refine a_lenS (hr:=?_) | refine a_lenR (hr:=?_) | refine a_pick (hr:=?_) | refine a_store (hr:=?_) | refine a_append (hr:=?_) | refine a_append0 (hr:=?_) | refine a_appendX (hr:=?_) | refine a_callN (hcall := q) (hr:=?_) | refine a_gT (hr:=?_) | refine a_gF (hr:=?_) | refine a_gU (hr:=?_))
 | (with_reducible refine a_gB (hT := ?_) (hF := ?_) <;> intro hb <;> (try simp at hb) <;> (try contradiction) <;> (try subst hb) <;> (try omega))
 | fail)
      all_goals ((refine hQ _ _ _ _ (by first | exact .inr rfl | exact .inl rfl) (by simp; exact .r) (by simp; exact .r) ?_))
      all_goals (try rw [hd])
      all_goals (exact FinG.new (n := 23) (hXw := by simp [hb0]; exact .r))
def numL (n lo hi : Int) : List Int := if n < lo ∨ hi < n then [] else enc 9 (n - lo)
theorem c_wnum (b : List Int) (long arg : Bool) (n lo hi : Int) (hn : -9223372036854775808 ≤ n ∧ n < 9223372036854775808) (hlo : -1 ≤ lo ∧ lo ≤ 0) (hhi : 0 ≤ hi ∧ hi ≤ 1000) (hb0 : b ≠ []) (hl : b.length ≤ 100000000) : CallG Tryd.prog 17 [.ptr 100001 0, .raw (.int .i64 n), .raw (.int .i64 lo), .raw (.int .i64 hi)] (wrH b long arg) (.tup []) (wrH (b ++ numL n lo hi) long (arg || decide (n < lo ∨ hi < n))) := by
  have hne : u8s b ≠ [] := by simpa using hb0
  unfold numL
  by_cases h1 : n < lo ∨ hi < n
  · rw [if_pos h1, decide_eq_true h1, Bool.or_true, List.append_nil]
    rcases h1 with h1 | h1
    · refine calls_goG (nt := 32) (rs := []) Tryd.func17 rfl rfl rfl (by simp) hbig_rH ?_; intro Q hQ hW
      unfold wrH; rw [rH_ne hne]
      repeat' (first
 | (with_reducible refine run_n ?_; with_reducible first | refine hK _ _ (by simp) ?_ | refine hK _ _ ?_; clear hK K)
 | (refine zzc ?_)
 | (with_reducible refine awp_regT (by kernel_rfl) ?_; intro K hK)
 | (with_reducible refine awp_regAM (id := 2) [(22, some 100001), (31, some 100001)] mixed (by kernel_rfl) (by kernel_rfl) ?_; intro K hK)
 | (with_reducible refine a_cond (ht := ?_) (hf := ?_) <;> intro hb <;> (try simp at hb) <;> (try contradiction) <;> (try subst hb) <;> (try omega))
 | (with_reducible first | refine a_move (hr:=?_) | refine a_load (hr:=?_) | refine a_fieldAddr (hr:=?_) | refine a_nilCheck (hr:=?_) | refine a_bin (hr:=?_) | refine a_pick (hr:=?_) | refine a_store (hr:=?_) | refine a_conv (hr:=?_) | refine a_bytesStr (hr:=?_) | refine a_strBytes (hr:=?_) | refine a_sameSl (hr:=?_) | refine a_append (hr:=?_) | refine a_append0 (hr:=?_) | refine a_appendX (hr:=?_) | refine a_gT (hr:=?_) | refine a_gF (hr:=?_) | refine a_gU (hr:=?_))
 | (with_reducible refine a_gB (hT := ?_) (hF := ?_) <;> intro hb <;> (try simp at hb) <;> (try contradiction) <;> (try subst hb) <;> (try omega))
 | fail)
      all_goals ((refine hQ _ _ _ _ (by first | exact .inr rfl | exact .inl rfl) (by simp; exact .r) (by simp; exact .r) ?_))
      all_goals (exact FinG.same (hne := hne) (hXw := by simp [rH, hb0]))
    · refine calls_goG (nt := 32) (rs := []) Tryd.func17 rfl rfl rfl (by simp) hbig_rH ?_; intro Q hQ hW
      unfold wrH; rw [rH_ne hne]
      repeat' (first
 | (with_reducible refine run_n ?_; with_reducible first | refine hK _ _ (by simp) ?_ | refine hK _ _ ?_; clear hK K)
 | (refine zzc ?_)
 | (with_reducible refine awp_regT (by kernel_rfl) ?_; intro K hK)
 | (with_reducible refine awp_regAM (id := 2) [(22, some 100001), (31, some 100001)] mixed (by kernel_rfl) (by kernel_rfl) ?_; intro K hK)
 | (with_reducible refine a_cond (ht := ?_) (hf := ?_) <;> intro hb <;> (try simp at hb) <;> (try contradiction) <;> (try subst hb) <;> (try omega))
 | (with_reducible first | refine a_move (hr:=?_) | refine a_load (hr:=?_) | refine a_fieldAddr (hr:=?_) | refine a_nilCheck (hr:=?_) | refine a_bin (hr:=?_) | refine a_pick (hr:=?_) | refine a_store (hr:=?_) | refine a_conv (hr:=?_) | refine a_bytesStr (hr:=?_) | refine a_strBytes (hr:=?_) | refine a_sameSl (hr:=?_) | refine a_append (hr:=?_) | refine a_append0 (hr:=?_) | refine a_appendX (hr:=?_) | refine a_gT (hr:=?_) | refine a_gF (hr:=?_) | refine a_gU (hr:=?_))
 | (with_reducible refine a_gB (hT := ?_) (hF := ?_) <;> intro hb <;> (try simp at hb) <;> (try contradiction) <;> (try subst hb) <;> (try omega))
 | fail)
      all_goals ((refine hQ _ _ _ _ (by first | exact .inr rfl | exact .inl rfl) (by simp; exact .r) (by simp; exact .r) ?_))
      all_goals (exact FinG.same (hne := hne) (hXw := by simp [rH, hb0]))
  · rw [if_neg h1, decide_eq_false h1, Bool.or_false]
    have q := c_UintT (n - lo) (by omega) (by omega)
    have htl := (enc_len 9 (n - lo)).1
    have htn : enc 9 (n - lo) ≠ [] := by
      have := (enc_len 9 (n - lo)).2
      intro h
      rw [h] at this; simp at this
    generalize enc 9 (n - lo) = t at q htl htn ⊢
    refine calls_goG (nt := 32) (rs := []) Tryd.func17 rfl rfl rfl (by simp) hbig_rH ?_; intro Q hQ hW
    unfold wrH; rw [rH_ne hne]
    repeat' (first
 | (with_reducible refine run_n ?_; with_reducible first | refine hK _ _ (by simp) ?_ | refine hK _ _ ?_; clear hK K)
 | (refine zzc ?_)
 | (with_reducible refine awp_regT (by kernel_rfl) ?_; intro K hK)
 | (with_reducible refine awp_regAM (id := 2) [(22, some 100001), (31, some 100001)] mixed (by kernel_rfl) (by kernel_rfl) ?_; intro K hK)
 | (with_reducible refine a_cond (ht := ?_) (hf := ?_) <;> intro hb <;> (try simp at hb) <;> (try contradiction) <;> (try subst hb) <;> (try omega))
 | (with_reducible first | refine a_move (hr:=?_) | refine a_load (hr:=?_) | refine a_fieldAddr (hr:=?_) | refine a_nilCheck (hr:=?_) | refine a_bin (hr:=?_) | refine a_pick (hr:=?_) | refine a_store (hr:=?_) | refine a_conv (hr:=?_) | refine a_bytesStr (hr:=?_) | refine a_strBytes (hr:=?_) | refine a_sameSl (hr:=?_) | refine a_append (hr:=?_) | refine a_append0 (hr:=?_) | refine a_appendX (hr:=?_) | refine a_callN (hcall := q) (hr:=?_) | refine a_gT (hr:=?_) | refine a_gF (hr:=?_) | refine a_gU (hr:=?_))
 | (with_reducible refine a_gB (hT := ?_) (hF := ?_) <;> intro hb <;> (try simp at hb) <;> (try contradiction) <;> (try subst hb) <;> (try omega))
 | fail)
    all_goals ((refine hQ _ _ _ _ (by first | exact .inr rfl | exact .inl rfl) (by simp; exact .r) (by simp; exact .r) ?_))
    all_goals (exact FinG.new (n := 29) (hXw := by simp [hb0]; exact .r))
end Go.Proofs.YtejeemhenoobjaaDoor.Asl

