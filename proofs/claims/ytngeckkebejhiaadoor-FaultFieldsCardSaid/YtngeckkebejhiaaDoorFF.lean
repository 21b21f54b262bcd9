/- Chapter 2: what is made and what should be; FaultThrough. -/
import Derived.Test.YtngeckkebejhiaaDoorFE
namespace Go.Proofs.YtngeckkebejhiaaDoor.Asl
open Go Go.RowKit
open Go.Proofs.YtngeckkebejhiaaDoor.Errs (EV)
set_option linter.unusedVariables false
set_option linter.unusedSimpArgs false
set_option maxRecDepth 100000
set_option maxHeartbeats 4000000
def wr (b : EV) : List ByteArray → EV
  | [] => b
  | p :: l => .wrap p (wr b l)
theorem wrapsE_some (b : EV) : ∀ l, wrapsE (some b) l = some (wr b l)
  | [] => rfl
  | p :: l => by rw [wrapsE, wrapsE_some b l]; rfl
theorem wrapsE_none : ∀ l, wrapsE none l = none
  | [] => rfl
  | p :: l => by rw [wrapsE, wrapsE_none l]; rfl
theorem num_wr (b : EV) : ∀ l, (wr b l).num = b.num
  | [] => rfl
  | p :: l => by rw [wr, Errs.EV.num, num_wr b l]
theorem need_wr (b : EV) : ∀ l, EV.need? (wr b l) = EV.need? b
  | [] => rfl
  | p :: l => by rw [wr, EV.need?, need_wr b l]
theorem places_wr (b : EV) : ∀ l, placesE (wr b l) = l ++ placesE b
  | [] => rfl
  | p :: l => by rw [wr, placesE, places_wr b l]; rfl
theorem joinS_acc (a : ByteArray) : ∀ (l : List ByteArray) (s : ByteArray), joinS l (a ++ s) = a ++ joinS l s
  | [], s => rfl
  | p :: l, s => by rw [joinS, joinS, ByteArray.append_assoc, joinS_acc a l]
theorem tailT_acc (a : ByteArray) (asks : Bool) (c : Int) (s : ByteArray) : tailT asks c (a ++ s) = a ++ tailT asks c s := by
  unfold tailT
  split
  · rw [ByteArray.append_assoc]
  · rw [ByteArray.append_assoc, ByteArray.append_assoc, ByteArray.append_assoc]
theorem emp_append (a : ByteArray) : (⟨#[]⟩ : ByteArray) ++ a = a := ByteArray.empty_append
theorem textE_wrap (p : ByteArray) (e : EV) : textE (some (.wrap p e)) = (p ++ ⟨#[58, 32]⟩) ++ textE (some e) := by
  have h1 : codeE (some (.wrap p e)) = codeE (some e) := rfl
  have h2 : needE (some (.wrap p e)) = needE (some e) := rfl
  show tailT (needE (some (.wrap p e))).2 (codeE (some (.wrap p e))) (joinS (p :: placesE e) ⟨#[]⟩) = _
  rw [h1, h2, joinS, emp_append]
  have h3 : p ++ (⟨#[58, 32]⟩ : ByteArray) = (p ++ ⟨#[58, 32]⟩) ++ ⟨#[]⟩ := (ByteArray.append_empty).symm
  rw [h3, joinS_acc, tailT_acc, ← h3]
  rfl
structure Tells (e : Option EV) (x : RE) : Prop where
  is : e.isSome = x.is
  code : codeE e = x.c
  need : needE e = ((x.lo, x.hi), x.asks)
  trail : trailE e = x.ps
  text : textE e = (if x.is then tailT x.asks x.c (joinS x.ps ⟨#[]⟩) else ⟨#[]⟩)
theorem tells (m : Mk) : Tells m.ev m.re := by
  obtain ⟨asks, lo, hi, c, ps⟩ := m
  cases asks with
  | true =>
    have e1 : Mk.ev ⟨true, lo, hi, c, ps⟩ = some (wr (.need lo hi) ps) := wrapsE_some _ _
    have e2 : Mk.re ⟨true, lo, hi, c, ps⟩ = ⟨true, ps, 20, true, lo, hi⟩ := rfl
    have h1 : codeE (some (wr (.need lo hi) ps)) = 20 := by rw [codeE, num_wr]; rfl
    have h2 : needE (some (wr (.need lo hi) ps)) = ((lo, hi), true) := by rw [needE, need_wr]; rfl
    have h3 : placesE (wr (.need lo hi) ps) = ps := by rw [places_wr]; exact List.append_nil _
    rw [e1, e2]
    exact ⟨rfl, h1, h2, h3, by simp only [if_true]; rw [textE, h1, h2, h3]⟩
  | false =>
    by_cases hc : c = 0
    · subst hc
      have e1 : Mk.ev ⟨false, lo, hi, 0, ps⟩ = none := wrapsE_none _
      have e2 : Mk.re ⟨false, lo, hi, 0, ps⟩ = ⟨false, [], 0, false, ⟨#[]⟩, ⟨#[]⟩⟩ := rfl
      rw [e1, e2]
      exact ⟨rfl, rfl, rfl, rfl, rfl⟩
    · have e1 : Mk.ev ⟨false, lo, hi, c, ps⟩ = some (wr (.code c) ps) := by
        have : Mk.base ⟨false, lo, hi, c, ps⟩ = some (.code c) := by simp [Mk.base, ofE, hc]
        rw [Mk.ev, this, wrapsE_some]
      have e2 : Mk.re ⟨false, lo, hi, c, ps⟩ = ⟨true, ps, c, false, ⟨#[]⟩, ⟨#[]⟩⟩ := by simp [Mk.re, hc]
      have h1 : codeE (some (wr (.code c) ps)) = c := by rw [codeE, num_wr]; rfl
      have h2 : needE (some (wr (.code c) ps)) = ((⟨#[]⟩, ⟨#[]⟩), false) := by rw [needE, need_wr]; rfl
      have h3 : placesE (wr (.code c) ps) = ps := by rw [places_wr]; exact List.append_nil _
      rw [e1, e2]
      exact ⟨rfl, h1, h2, h3, by simp only [if_true]; rw [textE, h1, h2, h3]⟩
theorem re_ps (m : Mk) : m.re.ps = m.ps ∨ m.re.ps = [] := by
  unfold Mk.re
  split
  · exact .inl rfl
  · split
    · exact .inr rfl
    · exact .inl rfl
theorem sumP_le : ∀ l : List ByteArray, l.all (fun p => decide (p.size ≤ 100)) = true → sumP l ≤ 102 * l.length
  | [], _ => by simp [sumP]
  | p :: l, h => by
    rw [List.all_cons, Bool.and_eq_true, decide_eq_true_eq] at h
    have := sumP_le l h.2
    simp only [sumP, List.map_cons, List.sum_cons, List.length_cons] at *
    omega
structure Small (x : RE) : Prop where
  len : x.ps.length ≤ 50
  sum : sumP x.ps ≤ 5100
  c : -2147483648 ≤ x.c ∧ x.c ≤ 2147483647
theorem small {m : Mk} (hm : m.ok) (h : m.few = true) : Small m.re := by
  unfold Mk.few at h
  rw [Bool.and_eq_true, decide_eq_true_eq] at h
  have h1 := sumP_le _ h.1
  refine ⟨?_, ?_, ?_⟩
  · rcases re_ps m with e | e <;> rw [e]
    · exact h.2
    · simp
  · rcases re_ps m with e | e <;> rw [e]
    · omega
    · simp [sumP]
  · obtain ⟨h2, h3, _⟩ := hm
    unfold Mk.re
    split
    · simp only; omega
    · split <;> simp only <;> omega
theorem textE_size (e : Option EV) : (textE e).size ≤ sumP (trailE e) + 30 := by
  cases e with
  | none => simp [textE]
  | some e =>
    have h0 : (⟨#[]⟩ : ByteArray).size = 0 := rfl
    have h4 : (⟨#[110, 101, 101, 100]⟩ : ByteArray).size = 4 := rfl
    have h6 : (⟨#[101, 114, 114, 111, 114, 32]⟩ : ByteArray).size = 6 := rfl
    have hd := digs10_size (codeE (some e))
    simp only [textE, tailT, trailE]
    split
    · rw [ByteArray.size_append, joinS_size]; omega
    · rw [ByteArray.size_append, ByteArray.size_append, joinS_size]; omega
@[simp] theorem take_1len (x : AV) (l : List ByteArray) : List.take (1 + l.length) (x :: strs l) = x :: strs l := List.take_of_length_le (by simp [Nat.add_comm])
@[simp] theorem one_add_le (n : Nat) : (1 + n ≤ n + 1) = True := eq_true (by omega)
theorem law_FaultThrough (m : Mk) (place : ByteArray) (hm : m.ok) (hp : place.size ≤ 140737488351232) : CallD Tryd.prog 3 [m.av, .raw (.string place)] noHeap (.raw (.bool true)) noHeap := by
  have hlv := c_Live2
  have hfw := c_mfew m hm
  obtain ⟨few, hfe⟩ : ∃ b, m.few = b := ⟨_, rfl⟩
  rw [hfe] at hfw
  cases few with
  | false =>
    obtain ⟨asks, lo, hi, c, ps⟩ := m
    refine calls_go (nt := 79) (rs := [.tmp 4]) Tryd.func3 rfl rfl rfl (by simp) (by intro id h; simp at h <;> omega) ?_; intro Q hQ hW
    repeat' (first
    | (with_reducible refine run_n ?_; with_reducible first | refine hK _ _ (by simp) ?_ | refine hK _ _ ?_; clear hK K)
    | (refine zzc ?_)
    | (with_reducible refine awp_regT (by kernel_rfl) ?_; intro K hK)
    | (with_reducible refine a_cond (ht := ?_) (hf := ?_) <;> intro hb <;> (try simp at hb) <;> (try contradiction) <;> (try subst hb) <;> (try omega))
    | (with_reducible first | refine a_move (hr:=?_) | refine a_assign (hr:=?_) | refine a_load (hr:=?_) | refine a_bin (hr:=?_) | refine a_extract (hr:=?_) | refine a_pick (hr:=?_) | refine a_un (hr:=?_) | refine a_store (hr:=?_) | refine a_box (hr:=?_) | refine a_alloc (hr:=?_) | refine a_eqI (hr:=?_) | refine a_neI (hr:=?_) | refine a_eqB (hr:=?_) | refine a_neB (hr:=?_) | refine a_eqS (hr:=?_) | refine a_neS (hr:=?_) | refine a_buildSlice (hr:=?_) | refine a_append (hr:=?_) | refine a_append0 (hr:=?_) | refine a_appendX (hr:=?_) | refine a_call0 (hcall := hlv) (hr:=?_) | refine a_callF (hcall := hfw) (hr:=?_) | refine a_gT (hr:=?_) | refine a_gF (hr:=?_) | refine a_gU (hr:=?_))
    | (with_reducible refine a_gB (hT := ?_) (hF := ?_) <;> intro hb <;> (try simp at hb) <;> (try contradiction) <;> (try subst hb) <;> (try omega))
    | fail)
    all_goals ((refine zzr hQ ?_))
    all_goals (exact Fin.drop (by simp; exact .r) (by simp))
  | true =>
    have hmk := c_make m hm
    have hs := small hm hfe
    have ht := tells m
    generalize m.ev = e at hmk ht
    generalize m.re = x at hs ht
    have hwp := c_FWrap place e
    cases e with
    | none =>
      simp only [errO_none, Option.map_none] at hmk hwp
      obtain ⟨asks, lo, hi, c, ps⟩ := m
      refine calls_go (nt := 79) (rs := [.tmp 4]) Tryd.func3 rfl rfl rfl (by simp) (by intro id h; simp at h <;> omega) ?_; intro Q hQ hW
      repeat' (first
    | (with_reducible refine run_n ?_; with_reducible first | refine hK _ _ (by simp) ?_ | refine hK _ _ ?_; clear hK K)
    | (refine zzc ?_)
    | (with_reducible refine awp_regT (by kernel_rfl) ?_; intro K hK)
    | (with_reducible refine a_cond (ht := ?_) (hf := ?_) <;> intro hb <;> (try simp at hb) <;> (try contradiction) <;> (try subst hb) <;> (try omega))
    | (with_reducible first | refine a_move (hr:=?_) | refine a_assign (hr:=?_) | refine a_load (hr:=?_) | refine a_bin (hr:=?_) | refine a_extract (hr:=?_) | refine a_pick (hr:=?_) | refine a_un (hr:=?_) | refine a_store (hr:=?_) | refine a_box (hr:=?_) | refine a_alloc (hr:=?_) | refine a_eqI (hr:=?_) | refine a_neI (hr:=?_) | refine a_eqB (hr:=?_) | refine a_neB (hr:=?_) | refine a_eqS (hr:=?_) | refine a_neS (hr:=?_) | refine a_buildSlice (hr:=?_) | refine a_append (hr:=?_) | refine a_append0 (hr:=?_) | refine a_appendX (hr:=?_) | refine a_call0 (hcall := hlv) (hr:=?_) | refine a_callF (hcall := hfw) (hr:=?_) | refine a_callF (hcall := hmk) (hr:=?_) | refine a_callF (hcall := hwp) (hr:=?_) | refine a_gT (hr:=?_) | refine a_gF (hr:=?_) | refine a_gU (hr:=?_))
    | (with_reducible refine a_gB (hT := ?_) (hF := ?_) <;> intro hb <;> (try simp at hb) <;> (try contradiction) <;> (try subst hb) <;> (try omega))
    | fail)
      all_goals ((refine zzr hQ ?_))
      all_goals (exact Fin.drop (by simp; exact .r) (by simp))
    | some e =>
      obtain ⟨hs1, hs2, hs3⟩ := hs
      rw [← ht.trail] at hs1 hs2
      have hcd := ht.code
      simp only [trailE] at hs1 hs2
      have hsz := textE_size (some e)
      simp only [trailE] at hsz
      have a1 := c_FNeeded (some e)
      have a2 : CallD Tryd.prog 12 [errAV (.wrap place e)] noHeap (.tup [needAV (needE (some e)).1, .raw (.bool (needE (some e)).2)]) noHeap := c_FNeeded (some (.wrap place e))
      have a3 := c_FCode (some e)
      have a4 : CallD Tryd.prog 14 [errAV (.wrap place e)] noHeap (.raw (.int .i64 (codeE (some e)))) noHeap := c_FCode (some (.wrap place e))
      have hpl : sumP (place :: placesE e) ≤ 1000000000000000000 := by simp only [sumP, List.map_cons, List.sum_cons] at *; omega
      have hci : inI (codeE (some e)) := by rw [hcd]; unfold inI; omega
      have a5 := c_FTrail (some e) (by simp only [trailE]; omega)
      have a6 : CallD Tryd.prog 13 [errAV (.wrap place e)] noHeap (.sl 1 (.raw (.string place) :: strs (placesE e))) noHeap := c_FTrail (some (.wrap place e)) (by simp only [trailE, placesE, List.length_cons]; omega)
      have a7 := c_FText (some e) (by simp only [trailE]; omega) (by simp only [trailE]; omega) hci
      have a8 := c_FText (some (.wrap place e)) hpl (by simp only [trailE, placesE, List.length_cons]; omega) hci
      rw [textE_wrap] at a8
      have a9 := c_RSame (place :: placesE e) (place :: placesE e) (by rw [List.length_cons]; omega) (by rw [List.length_cons]; omega)
      rw [decide_eq_true rfl] at a9
      have a10 : CallD Tryd.prog 15 [.sl 1 (.raw (.string place) :: strs (placesE e)), .sl 1 (.raw (.string place) :: strs (placesE e))] noHeap (.raw (.bool true)) noHeap := a9
      simp only [errO_some, Option.map_some, trailE] at hmk hwp a1 a3 a5 a7 a8
      generalize codeE (some e) = c0 at a3 a4
      generalize needE (some e) = n0 at a1 a2
      generalize textE (some e) = t0 at a7 a8 hsz
      generalize placesE e = l0 at a5 a6 a10 hs1 hs2 hsz
      generalize EV.wrap place e = w at hwp a2 a4 a6 a8
      obtain ⟨⟨nl, nh⟩, nb⟩ := n0
      simp only at a1 a2
      clear a9 ht hci hcd hpl hs3
      obtain ⟨asks, lo, hi, c, ps⟩ := m
      refine calls_go (nt := 79) (rs := [.tmp 4]) Tryd.func3 rfl rfl rfl (by simp) (by intro id h; simp at h <;> omega) ?_; intro Q hQ hW
      repeat' (first
    | (with_reducible refine run_n ?_; with_reducible first | refine hK _ _ (by simp) ?_ | refine hK _ _ ?_; clear hK K)
    | (refine zzc ?_)
    | (with_reducible refine awp_regT (by kernel_rfl) ?_; intro K hK)
    | (with_reducible refine a_cond (ht := ?_) (hf := ?_) <;> intro hb <;> (try simp at hb) <;> (try contradiction) <;> (try subst hb) <;> (try omega))
    | (with_reducible first | refine a_move (hr:=?_) | refine a_assign (hr:=?_) | refine a_load (hr:=?_) | refine a_bin (hr:=?_) | refine a_extract (hr:=?_) | refine a_pick (hr:=?_) | refine a_un (hr:=?_) | refine a_store (hr:=?_) | refine a_box (hr:=?_) | refine a_alloc (hr:=?_) | refine a_eqI (hr:=?_) | refine a_neI (hr:=?_) | refine a_eqB (hr:=?_) | refine a_neB (hr:=?_) | refine a_eqS (hr:=?_) | refine a_neS (hr:=?_) | refine a_buildSlice (hr:=?_) | refine a_append (hr:=?_) | refine a_append0 (hr:=?_) | refine a_appendX (hr:=?_) | refine a_call0 (hcall := hlv) (hr:=?_) | refine a_callF (hcall := hfw) (hr:=?_) | refine a_callF (hcall := hmk) (hr:=?_) | refine a_callF (hcall := hwp) (hr:=?_) | refine a_callF (hcall := a1) (hr:=?_) | refine a_callF (hcall := a2) (hr:=?_) | refine a_callF (hcall := a3) (hr:=?_) | refine a_callF (hcall := a4) (hr:=?_) | refine a_callF (hcall := a5) (hr:=?_) | refine a_callF (hcall := a6) (hr:=?_) | refine a_callF (hcall := a7) (hr:=?_) | refine a_callF (hcall := a8) (hr:=?_) | refine a_callF (hcall := a10) (hr:=?_) | refine a_gT (hr:=?_) | refine a_gF (hr:=?_) | refine a_gU (hr:=?_))
    | (with_reducible refine a_gB (hT := ?_) (hF := ?_) <;> intro hb <;> (try simp at hb) <;> (try contradiction) <;> (try subst hb) <;> (try omega))
    | fail)
      all_goals ((refine zzr hQ ?_))
      all_goals (exact Fin.drop (by simp; exact .r) (by simp))
end Go.Proofs.YtngeckkebejhiaaDoor.Asl
