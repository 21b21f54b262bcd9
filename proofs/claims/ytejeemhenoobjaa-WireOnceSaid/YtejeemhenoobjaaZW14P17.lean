/- Part 17 of what the row leans on: abstract values and states, their rules, and the contracts of the functions. -/
import Derived.Test.YtejeemhenoobjaaZW14P16
namespace Go.Proofs.Ytejeemhenoobjaa.Asl
open Go Go.RowKit
set_option linter.unusedVariables false
set_option linter.unusedSimpArgs false
set_option maxRecDepth 100000
set_option maxHeartbeats 8000000
theorem c_r14long (l : List ByteArray) (hl : l.length < 9223372036854775808) (hs : ∀ s ∈ l, s.size < 9223372036854775808) : CallD Try.prog 16 [.sl 1 (strs l)] noHeap (.raw (.bool (l.any fun s => decide (128 < s.size)))) noHeap := by
  refine zzg (nt := 15) (rs := [.tmp 2]) Try.func16 ?_; intro Q hQ hW
  repeat' (first
 | (with_reducible refine run_n ?_; with_reducible first | refine hK _ _ (by simp) ?_ | refine hK _ _ ?_; clear hK K)
 | (refine zzc ?_)
 | (with_reducible refine awp_regT (by kernel_rfl) ?_; intro K hK)
 | (with_reducible refine a_cond (ht := ?_) (hf := ?_) <;> intro hb <;> (try simp at hb) <;> (try contradiction) <;> (try subst hb) <;> (try omega))
 | (with_reducible first | refine a_move (hr:=?_) | refine a_assign (hr:=?_) | refine a_load (hr:=?_) | refine a_bin (hr:=?_) | refine a_lenS (hr:=?_) | refine a_lenR (hr:=?_) | refine a_idxArr (hr:=?_) | refine a_indexAddr (hr:=?_))
 | fail)
  refine awp_inv (α := Nat) (fun i => [(5, .sl 1 (strs l)), (6, .raw (.int .i64 l.length)), (7, .raw (.int .i64 i))]) (fun _ => hpL []) (fun i => i ≤ l.length ∧ (l.drop i).any (fun s => decide (128 < s.size)) = l.any (fun s => decide (128 < s.size))) (fun i => l.length - i) 0 ⟨by simp, by simp⟩ (zzw) ?_
  rintro i ⟨g1, g2⟩
  rw [← g2] at hQ
  rcases Nat.lt_or_ge i l.length with hlt | hge
  · have hx := List.getElem?_eq_getElem hlt
    have hz := hs _ (List.getElem_mem hlt)
    rw [List.drop_eq_getElem_cons hlt] at g2 hQ
    generalize l[i] = y at hx g2 hQ hz
    simp only [List.any_cons] at g2 hQ
    by_cases h1 : 128 < y.size
    · rw [decide_eq_true h1] at hQ
      repeat' (first
 | (with_reducible refine run_n ?_; with_reducible first | refine hK _ _ (by simp) ?_ | refine hK _ _ ?_; clear hK K)
 | (refine zzc ?_)
 | (with_reducible refine awp_regT (by kernel_rfl) ?_; intro K hK)
 | (with_reducible refine a_cond (ht := ?_) (hf := ?_) <;> intro hb <;> (try simp at hb) <;> (try contradiction) <;> (try subst hb) <;> (try omega))
 | (with_reducible first | refine a_move (hr:=?_) | refine a_assign (hr:=?_) | refine a_load (hr:=?_) | refine a_bin (hr:=?_) | refine a_lenS (hr:=?_) | refine a_lenR (hr:=?_) | refine a_idxArr (hr:=?_) | refine a_indexAddr (hr:=?_))
 | fail)
      (refine zzr hQ ?_)
      exact zzd
    · rw [decide_eq_false h1, Bool.false_or] at g2 hQ
      repeat' (first
 | (with_reducible refine run_n ?_; with_reducible first | refine hK _ _ (by simp) ?_ | refine hK _ _ ?_; clear hK K)
 | (refine zzc ?_)
 | (with_reducible refine awp_regT (by kernel_rfl) ?_; intro K hK)
 | (with_reducible refine a_cond (ht := ?_) (hf := ?_) <;> intro hb <;> (try simp at hb) <;> (try contradiction) <;> (try subst hb) <;> (try omega))
 | (with_reducible first | refine a_move (hr:=?_) | refine a_assign (hr:=?_) | refine a_load (hr:=?_) | refine a_bin (hr:=?_) | refine a_lenS (hr:=?_) | refine a_lenR (hr:=?_) | refine a_idxArr (hr:=?_) | refine a_indexAddr (hr:=?_))
 | fail)
      exact ⟨i + 1, by omega, ⟨by omega, g2⟩, zzw⟩
  · obtain rfl : i = l.length := by omega
    rw [List.drop_length] at hQ
    simp only [List.any_nil] at hQ
    repeat' (first
 | (with_reducible refine run_n ?_; with_reducible first | refine hK _ _ (by simp) ?_ | refine hK _ _ ?_; clear hK K)
 | (refine zzc ?_)
 | (with_reducible refine awp_regT (by kernel_rfl) ?_; intro K hK)
 | (with_reducible refine a_cond (ht := ?_) (hf := ?_) <;> intro hb <;> (try simp at hb) <;> (try contradiction) <;> (try subst hb) <;> (try omega))
 | (with_reducible first | refine a_move (hr:=?_) | refine a_assign (hr:=?_) | refine a_load (hr:=?_) | refine a_bin (hr:=?_) | refine a_lenS (hr:=?_) | refine a_lenR (hr:=?_) | refine a_idxArr (hr:=?_) | refine a_indexAddr (hr:=?_))
 | fail)
    (refine zzr hQ ?_)
    exact zzd
theorem c_r14bit (b : Bool) : CallD Try.prog 20 [.raw (.bool b)] noHeap (.sl 1 (u8s [bitI b])) noHeap := by
  cases b with
  | true =>
    rw [show u8s [bitI true] = [.raw (.int .u8 1)] from rfl]
    refine zzg (nt := 6) (rs := [.tmp 2]) Try.func20 ?_; intro Q hQ hW
    repeat' (first
 | (with_reducible refine run_n ?_; with_reducible first | refine hK _ _ (by simp) ?_ | refine hK _ _ ?_; clear hK K)
 | (refine zzc ?_)
 | (with_reducible refine awp_regT (by kernel_rfl) ?_; intro K hK)
 | (with_reducible refine a_cond (ht := ?_) (hf := ?_) <;> intro hb <;> (try simp at hb) <;> (try contradiction) <;> (try subst hb) <;> (try omega))
 | (with_reducible first | refine a_move (hr:=?_) | refine a_assign (hr:=?_) | refine a_buildSlice (hr:=?_))
 | fail)
    all_goals ((refine zzr hQ ?_))
    all_goals (exact Fin.frzR (by simp; exact .r) (by simp; exact .r) (by simp; exact .r) (by simp))
  | false =>
    rw [show u8s [bitI false] = [.raw (.int .u8 0)] from rfl]
    refine zzg (nt := 6) (rs := [.tmp 2]) Try.func20 ?_; intro Q hQ hW
    repeat' (first
 | (with_reducible refine run_n ?_; with_reducible first | refine hK _ _ (by simp) ?_ | refine hK _ _ ?_; clear hK K)
 | (refine zzc ?_)
 | (with_reducible refine awp_regT (by kernel_rfl) ?_; intro K hK)
 | (with_reducible refine a_cond (ht := ?_) (hf := ?_) <;> intro hb <;> (try simp at hb) <;> (try contradiction) <;> (try subst hb) <;> (try omega))
 | (with_reducible first | refine a_move (hr:=?_) | refine a_assign (hr:=?_) | refine a_buildSlice (hr:=?_))
 | fail)
    all_goals ((refine zzr hQ ?_))
    all_goals (exact Fin.frzR (by simp; exact .r) (by simp; exact .r) (by simp; exact .r) (by simp))
def numR (n : Int) : List Int := enc 9 (n % 18446744073709551616)
theorem numR_in {n : Int} (h : 0 ≤ n ∧ n < 18446744073709551616) : numR n = enc 9 n := by unfold numR; rw [Int.emod_eq_of_lt h.1 h.2]
theorem numR_wrap (n : Int) : numR (IntKind.wrap .i64 n) = numR n := by
  unfold numR
  congr 1
  simp only [IntKind.wrap, IntKind.bits, IntKind.signed]
  simp
  try split
  all_goals omega
theorem numR_len (n : Int) : (numR n).length ≤ 10 := (enc_len 9 _).1
theorem c_r14number (n : Int) : CallD Try.prog 19 [.raw (.int .i64 n)] noHeap (.sl 1 (u8s (numR n))) noHeap := by
  have h1 := c_rUintT (IntKind.wrap .u64 n) (by rw [wrap_u64']; omega) (by rw [wrap_u64']; omega)
  unfold numR
  rw [← wrap_u64' n]
  refine zzg (nt := 6) (rs := [.tmp 2]) Try.func19 ?_; intro Q hQ hW
  repeat' (first
 | (with_reducible refine run_n ?_; with_reducible first | refine hK _ _ (by simp) ?_ | refine hK _ _ ?_; clear hK K)
 | (refine zzc ?_)
 | (with_reducible refine awp_regT (by kernel_rfl) ?_; intro K hK)
 | (with_reducible refine a_cond (ht := ?_) (hf := ?_) <;> intro hb <;> (try simp at hb) <;> (try contradiction) <;> (try subst hb) <;> (try omega))
 | (with_reducible first | refine a_move (hr:=?_) | refine a_assign (hr:=?_) | refine a_conv (hr:=?_) | refine a_bytesStr (hr:=?_) | refine a_strBytes (hr:=?_) | refine a_sameSl (hr:=?_) | refine a_callN (hcall := h1) (hr:=?_))
 | fail)
  all_goals ((refine zzr hQ ?_))
  all_goals (exact zzd)
def nodeR (n : NodeV) : List Int := [n.kd % 256] ++ (txtL n.nm ++ (numR (n.up + 1) ++ (txtL n.tx ++ (txtL n.ky ++ (txtL n.to ++ (numR (n.at_ + 1) ++ [bitI n.st]))))))
def flowR (f : FlowV) : List Int := numR f.fr ++ (numR f.to ++ (txtL f.cd ++ [bitI f.el]))
theorem nodeR_len {n : NodeV} (h : SmN n) : (nodeR n).length ≤ 5000 := by
  have a1 := txtL_len n.nm
  have a2 := txtL_len n.tx
  have a3 := txtL_len n.ky
  have a4 := txtL_len n.to
  have a5 := numR_len (n.up + 1)
  have a6 := numR_len (n.at_ + 1)
  obtain ⟨b1, b2, b3, b4, _⟩ := h
  unfold nodeR
  generalize txtL n.nm = x1 at *
  generalize txtL n.tx = x2 at *
  generalize txtL n.ky = x3 at *
  generalize txtL n.to = x4 at *
  generalize numR (n.up + 1) = x5 at *
  generalize numR (n.at_ + 1) = x6 at *
  simp only [List.length_append, List.length_singleton]
  omega
theorem flowR_len {f : FlowV} (h : SmF f) : (flowR f).length ≤ 5000 := by
  have a1 := txtL_len f.cd
  have a5 := numR_len f.fr
  have a6 := numR_len f.to
  obtain ⟨b1, _⟩ := h
  unfold flowR
  generalize txtL f.cd = x1 at *
  generalize numR f.fr = x5 at *
  generalize numR f.to = x6 at *
  simp only [List.length_append, List.length_singleton]
  omega
theorem nodeR_ok {n : NodeV} (h : argN n = false) : nodeR n = nodeL n := by
  unfold argN at h
  simp only [Bool.or_eq_false_iff, decide_eq_false_iff_not] at h
  unfold nodeR nodeL
  rw [numR_in (by omega), numR_in (by omega)]
theorem flowR_ok {f : FlowV} (h : argF f = false) : flowR f = flowL f := by
  unfold argF at h
  simp only [Bool.or_eq_false_iff, decide_eq_false_iff_not] at h
  unfold flowR flowL
  rw [numR_in (by omega), numR_in (by omega)]
structure NodP (ns : List NodeV) (b0 : List Int) (l0 : Bool) (i : Nat) (b : List Int) (long arg : Bool) : Prop where
  le : i ≤ ns.length
  eq : b = b0 ++ (ns.take i).flatMap nodeR
  lg : long = (l0 || (ns.take i).any longN)
  ag : arg = (ns.take i).any argN
  sz : b.length ≤ 3000 + 5000 * i
theorem NodP.next {ns : List NodeV} {b0 : List Int} {l0 : Bool} {i : Nat} {b : List Int} {long arg : Bool} (g : NodP ns b0 l0 i b long arg) {n : NodeV} (hn : ns[i]? = some n) (hs : SmN n) : NodP ns b0 l0 (i + 1) (b ++ nodeR n) (long || longN n) (arg || argN n) := by
  have hlt := (List.getElem?_eq_some_iff.1 hn).1
  have hx := (List.getElem?_eq_some_iff.1 hn).2
  have ht := List.take_succ_eq_append_getElem hlt
  rw [hx] at ht
  have hl := nodeR_len hs
  refine ⟨hlt, ?_, ?_, ?_, ?_⟩
  · rw [ht, List.flatMap_append, ← List.append_assoc, ← g.eq]; simp
  · rw [ht, List.any_append, ← Bool.or_assoc, ← g.lg]; simp
  · rw [ht, List.any_append, ← g.ag]; simp
  · have := g.sz; rw [List.length_append]; omega
structure FloP (fs : List FlowV) (b0 : List Int) (l0 a0 : Bool) (i : Nat) (b : List Int) (long arg : Bool) : Prop where
  le : i ≤ fs.length
  eq : b = b0 ++ (fs.take i).flatMap flowR
  lg : long = (l0 || (fs.take i).any longF)
  ag : arg = (a0 || (fs.take i).any argF)
  sz : b.length ≤ 6000000 + 5000 * i
theorem FloP.next {fs : List FlowV} {b0 : List Int} {l0 a0 : Bool} {i : Nat} {b : List Int} {long arg : Bool} (g : FloP fs b0 l0 a0 i b long arg) {f : FlowV} (hn : fs[i]? = some f) (hs : SmF f) : FloP fs b0 l0 a0 (i + 1) (b ++ flowR f) (long || longF f) (arg || argF f) := by
  have hlt := (List.getElem?_eq_some_iff.1 hn).1
  have hx := (List.getElem?_eq_some_iff.1 hn).2
  have ht := List.take_succ_eq_append_getElem hlt
  rw [hx] at ht
  have hl := flowR_len hs
  refine ⟨hlt, ?_, ?_, ?_, ?_⟩
  · rw [ht, List.flatMap_append, ← List.append_assoc, ← g.eq]; simp
  · rw [ht, List.any_append, ← Bool.or_assoc, ← g.lg]; simp
  · rw [ht, List.any_append, ← Bool.or_assoc, ← g.ag]; simp
  · have := g.sz; rw [List.length_append]; omega
theorem long1 (s : ByteArray) : [s].any (fun s => decide (128 < s.size)) = decide (128 < s.size) := by simp
theorem long4 (a b c d : ByteArray) : [a, b, c, d].any (fun s => decide (128 < s.size)) = (decide (128 < a.size) || decide (128 < b.size) || decide (128 < c.size) || decide (128 < d.size)) := by simp [Bool.or_assoc]
/-- What the document puts, whatever is wrong. -/
def endR (d : DefV) : List Int := ((magicL ++ (txtL d.nm ++ numR d.ns.length)) ++ d.ns.flatMap nodeR ++ numR d.fs.length) ++ d.fs.flatMap flowR
theorem endR_ok {d : DefV} (h : argD d = false) (h1 : d.ns.length ≤ 1000) (h2 : d.fs.length ≤ 1000) : endR d = defL d := by
  unfold argD at h
  simp only [Bool.or_eq_false_iff, List.any_eq_false, Bool.not_eq_true] at h
  unfold endR defL
  have e1 : d.ns.flatMap nodeR = d.ns.flatMap nodeL := by
    have : ∀ l : List NodeV, (∀ n ∈ l, argN n = false) → l.flatMap nodeR = l.flatMap nodeL := by
      intro l
      induction l with
      | nil => intro _; rfl
      | cons n l ih => intro hh; rw [List.flatMap_cons, List.flatMap_cons, nodeR_ok (hh n List.mem_cons_self), ih fun x hx => hh x (List.mem_cons_of_mem _ hx)]
    exact this _ h.1
  have e2 : d.fs.flatMap flowR = d.fs.flatMap flowL := by
    have : ∀ l : List FlowV, (∀ n ∈ l, argF n = false) → l.flatMap flowR = l.flatMap flowL := by
      intro l
      induction l with
      | nil => intro _; rfl
      | cons n l ih => intro hh; rw [List.flatMap_cons, List.flatMap_cons, flowR_ok (hh n List.mem_cons_self), ih fun x hx => hh x (List.mem_cons_of_mem _ hx)]
    exact this _ h.2
  rw [e1, e2, numR_in (by omega), numR_in (by omega)]
  simp only [List.append_assoc]
def muchD (d : DefV) : Bool := decide (128 < d.nm.size) || decide (40 < d.ns.length) || decide (80 < d.fs.length) || d.ns.any longN || d.fs.any longF
def endRP (d : DefV) : AV × AV := if muchD d = true then (.raw (.slice none 0 0), .raw (.int .i64 3)) else if argD d = true then (.raw (.slice none 0 0), .raw (.int .i64 1)) else (.sl 1 (u8s (endR d)), .raw (.int .i64 0))
theorem c_r14PutM (d : DefV) (h : SmD d) (h1 : d.ns.length ≤ 1000) (h2 : d.fs.length ≤ 1000) : CallD Try.prog 9 [defAV d] noHeap (.tup [(endRP d).1, (endRP d).2]) noHeap := by
  obtain ⟨nm, ns, fs⟩ := d
  have hnm := h.nm
  have hsn := h.n
  have hsf := h.f
  simp only at h1 h2 hnm hsn hsf
  clear h
  have k1 := c_r14long [nm] (by simp) (by simp; omega)
  rw [long1] at k1
  have k2 := c_rText nm (by omega)
  have k3 := c_r14number ns.length
  have a1 := txtL_len nm
  have a2 := numR_len ns.length
  obtain ⟨RB, hRB⟩ : ∃ x, endR ⟨nm, ns, fs⟩ = x := ⟨_, rfl⟩
  obtain ⟨RP, hRP⟩ : ∃ x, endRP ⟨nm, ns, fs⟩ = x := ⟨_, rfl⟩
  rw [hRP]
  unfold endRP at hRP
  rw [hRB] at hRP
  obtain ⟨ld, hLD⟩ : ∃ x, muchD ⟨nm, ns, fs⟩ = x := ⟨_, rfl⟩
  obtain ⟨ad, hAD⟩ : ∃ x, argD ⟨nm, ns, fs⟩ = x := ⟨_, rfl⟩
  rw [hLD, hAD] at hRP
  simp only [muchD] at hLD
  simp only [argD] at hAD
  simp only [endR] at hRB
  obtain ⟨tn, htn⟩ : ∃ x, txtL nm = x := ⟨_, rfl⟩
  rw [show enc 9 nm.size ++ bytesOf nm = tn from htn] at k2
  rw [htn] at a1 hRB
  generalize numR ns.length = tl at k3 a2 hRB
  have em : magicL.length = 3 := rfl
  have hb0 : (magicL ++ (tn ++ tl)).length ≤ 3000 := by simp only [List.length_append, em]; omega
  have hj := c_rJoinT [magicL, tn, tl] (by simp only [List.flatten_cons, List.flatten_nil, List.append_nil]; omega) (by simp)
  simp only [rws_cons, rws_nil, List.flatten_cons, List.flatten_nil, List.append_nil] at hj
  generalize magicL ++ (tn ++ tl) = b0 at hj hRB hb0
  rw [show u8s magicL = [.raw (.int .u8 98), .raw (.int .u8 112), .raw (.int .u8 49)] from rfl] at hj
  obtain ⟨m0, hm0⟩ : ∃ x, (decide (128 < nm.size) || decide (40 < ns.length) || decide (80 < fs.length)) = x := ⟨_, rfl⟩
  rw [hm0] at hLD
  simp only [strs_cons, strs_nil] at k1
  simp only [defAV]
  refine zzg (nt := 183) (rs := [.tmp 2, .tmp 3]) Try.func9 ?_; intro Q hQ hW
  repeat' (first
 | (with_reducible refine run_n ?_; with_reducible first | refine hK _ _ (by simp) ?_ | refine hK _ _ ?_; clear hK K)
 | (refine zzc ?_)
 | (with_reducible refine a_cond (ht := ?_) (hf := ?_) <;> intro hb <;> (try simp at hb) <;> (try contradiction) <;> (try subst hb) <;> (try omega))
 | (with_reducible first | refine a_move (hr:=?_) | refine a_assign (hr:=?_) | refine a_load (hr:=?_) | refine a_fieldAddr (hr:=?_) | refine a_bin (hr:=?_) | refine a_lenS (hr:=?_) | refine a_lenR (hr:=?_) | refine a_pick (hr:=?_) | refine a_store (hr:=?_) | refine a_box (hr:=?_) | refine a_alloc (hr:=?_) | refine a_conv (hr:=?_) | refine a_bytesStr (hr:=?_) | refine a_strBytes (hr:=?_) | refine a_sameSl (hr:=?_) | refine a_idxArr (hr:=?_) | refine a_indexAddr (hr:=?_) | refine a_buildSlice (hr:=?_) | refine a_gT (hr:=?_) | refine a_gF (hr:=?_) | refine a_gU (hr:=?_))
 | (with_reducible refine a_gB (hT := ?_) (hF := ?_) <;> intro hb <;> (try simp at hb) <;> (try contradiction) <;> (try subst hb) <;> (try omega))
 | fail)
  (with_reducible refine awp_regT (by kernel_rfl) ?_; intro K hK)
  repeat' (first
 | (with_reducible refine run_n ?_; with_reducible first | refine hK _ _ (by simp) ?_ | refine hK _ _ ?_; clear hK K)
 | (refine zzc ?_)
 | (with_reducible refine a_cond (ht := ?_) (hf := ?_) <;> intro hb <;> (try simp at hb) <;> (try contradiction) <;> (try subst hb) <;> (try omega))
 | (with_reducible first | refine a_move (hr:=?_) | refine a_assign (hr:=?_) | refine a_load (hr:=?_) | refine a_fieldAddr (hr:=?_) | refine a_bin (hr:=?_) | refine a_lenS (hr:=?_) | refine a_lenR (hr:=?_) | refine a_pick (hr:=?_) | refine a_store (hr:=?_) | refine a_box (hr:=?_) | refine a_alloc (hr:=?_) | refine a_conv (hr:=?_) | refine a_bytesStr (hr:=?_) | refine a_strBytes (hr:=?_) | refine a_sameSl (hr:=?_) | refine a_idxArr (hr:=?_) | refine a_indexAddr (hr:=?_) | refine a_buildSlice (hr:=?_) | refine a_gT (hr:=?_) | refine a_gF (hr:=?_) | refine a_gU (hr:=?_))
 | (with_reducible refine a_gB (hT := ?_) (hF := ?_) <;> intro hb <;> (try simp at hb) <;> (try contradiction) <;> (try subst hb) <;> (try omega))
 | fail)
  refine wp_join ⟨envA [(1, .ptr 1 0), (4, .raw (.bool m0))], hpL [(1, .box (.agg [.raw (.string nm), .sl 8 (ns.map nodeAV), .sl 4 (fs.map flowAV)]))]⟩ ?_ ?_
  · clear hLD hAD hRP hRB hj k2 k3
    by_cases e1 : 128 < nm.size
    · rw [decide_eq_true e1] at k1 hm0
      simp only [Bool.true_or] at hm0
      subst hm0
      (with_reducible refine awp_regT (by kernel_rfl) ?_; intro K hK)
      repeat' (first
 | (with_reducible refine run_n ?_; with_reducible first | refine hK _ _ (by simp) ?_ | refine hK _ _ ?_; clear hK K)
 | (refine zzc ?_)
 | (with_reducible refine a_cond (ht := ?_) (hf := ?_) <;> intro hb <;> (try simp at hb) <;> (try contradiction) <;> (try subst hb) <;> (try omega))
 | (with_reducible first | refine a_move (hr:=?_) | refine a_assign (hr:=?_) | refine a_load (hr:=?_) | refine a_fieldAddr (hr:=?_) | refine a_bin (hr:=?_) | refine a_lenS (hr:=?_) | refine a_lenR (hr:=?_) | refine a_pick (hr:=?_) | refine a_store (hr:=?_) | refine a_box (hr:=?_) | refine a_alloc (hr:=?_) | refine a_conv (hr:=?_) | refine a_bytesStr (hr:=?_) | refine a_strBytes (hr:=?_) | refine a_sameSl (hr:=?_) | refine a_idxArr (hr:=?_) | refine a_indexAddr (hr:=?_) | refine a_buildSlice (hr:=?_) | refine a_callF (hcall := k1) (hr:=?_) | refine a_gT (hr:=?_) | refine a_gF (hr:=?_) | refine a_gU (hr:=?_))
 | (with_reducible refine a_gB (hT := ?_) (hF := ?_) <;> intro hb <;> (try simp at hb) <;> (try contradiction) <;> (try subst hb) <;> (try omega))
 | fail)
      exact zzw
    · rw [decide_eq_false e1, Bool.false_or] at hm0
      rw [decide_eq_false e1] at k1
      by_cases e2 : 40 < ns.length
      · rw [decide_eq_true e2, Bool.true_or] at hm0
        subst hm0
        (with_reducible refine awp_regT (by kernel_rfl) ?_; intro K hK)
        repeat' (first
 | (with_reducible refine run_n ?_; with_reducible first | refine hK _ _ (by simp) ?_ | refine hK _ _ ?_; clear hK K)
 | (refine zzc ?_)
 | (with_reducible refine a_cond (ht := ?_) (hf := ?_) <;> intro hb <;> (try simp at hb) <;> (try contradiction) <;> (try subst hb) <;> (try omega))
 | (with_reducible first | refine a_move (hr:=?_) | refine a_assign (hr:=?_) | refine a_load (hr:=?_) | refine a_fieldAddr (hr:=?_) | refine a_bin (hr:=?_) | refine a_lenS (hr:=?_) | refine a_lenR (hr:=?_) | refine a_pick (hr:=?_) | refine a_store (hr:=?_) | refine a_box (hr:=?_) | refine a_alloc (hr:=?_) | refine a_conv (hr:=?_) | refine a_bytesStr (hr:=?_) | refine a_strBytes (hr:=?_) | refine a_sameSl (hr:=?_) | refine a_idxArr (hr:=?_) | refine a_indexAddr (hr:=?_) | refine a_buildSlice (hr:=?_) | refine a_callF (hcall := k1) (hr:=?_) | refine a_gT (hr:=?_) | refine a_gF (hr:=?_) | refine a_gU (hr:=?_))
 | (with_reducible refine a_gB (hT := ?_) (hF := ?_) <;> intro hb <;> (try simp at hb) <;> (try contradiction) <;> (try subst hb) <;> (try omega))
 | fail)
        exact zzw
      · rw [decide_eq_false e2, Bool.false_or] at hm0
        subst hm0
        (with_reducible refine awp_regT (by kernel_rfl) ?_; intro K hK)
        repeat' (first
 | (with_reducible refine run_n ?_; with_reducible first | refine hK _ _ (by simp) ?_ | refine hK _ _ ?_; clear hK K)
 | (refine zzc ?_)
 | (with_reducible refine a_cond (ht := ?_) (hf := ?_) <;> intro hb <;> (try simp at hb) <;> (try contradiction) <;> (try subst hb) <;> (try omega))
 | (with_reducible first | refine a_move (hr:=?_) | refine a_assign (hr:=?_) | refine a_load (hr:=?_) | refine a_fieldAddr (hr:=?_) | refine a_bin (hr:=?_) | refine a_lenS (hr:=?_) | refine a_lenR (hr:=?_) | refine a_pick (hr:=?_) | refine a_store (hr:=?_) | refine a_box (hr:=?_) | refine a_alloc (hr:=?_) | refine a_conv (hr:=?_) | refine a_bytesStr (hr:=?_) | refine a_strBytes (hr:=?_) | refine a_sameSl (hr:=?_) | refine a_idxArr (hr:=?_) | refine a_indexAddr (hr:=?_) | refine a_buildSlice (hr:=?_) | refine a_callF (hcall := k1) (hr:=?_) | refine a_gT (hr:=?_) | refine a_gF (hr:=?_) | refine a_gU (hr:=?_))
 | (with_reducible refine a_gB (hT := ?_) (hF := ?_) <;> intro hb <;> (try simp at hb) <;> (try contradiction) <;> (try subst hb) <;> (try omega))
 | fail)
        exact zzw
  clear k1 hm0
  repeat' (first
 | (with_reducible refine run_n ?_; with_reducible first | refine hK _ _ (by simp) ?_ | refine hK _ _ ?_; clear hK K)
 | (refine zzc ?_)
 | (with_reducible refine awp_regT (by kernel_rfl) ?_; intro K hK)
 | (with_reducible refine awp_regAM (id := 3) [(29, some 1), (32, some 1)] mixed (by kernel_rfl) (by kernel_rfl) ?_; intro K hK)
 | (with_reducible refine awp_regAM (id := 9) [(90, some 8), (94, some 8), (97, some 8), (101, some 8), (104, some 8), (107, some 8), (110, some 8), (114, some 8)] mixed (by kernel_rfl) (by kernel_rfl) ?_; intro K hK)
 | (with_reducible refine awp_regAM (id := 17) [(163, some 10), (166, some 10), (169, some 10), (172, some 10)] mixed (by kernel_rfl) (by kernel_rfl) ?_; intro K hK)
 | (with_reducible refine a_cond (ht := ?_) (hf := ?_) <;> intro hb <;> (try simp at hb) <;> (try contradiction) <;> (try subst hb) <;> (try omega))
 | (with_reducible first | refine a_move (hr:=?_) | refine a_assign (hr:=?_) | refine a_load (hr:=?_) | refine a_fieldAddr (hr:=?_) | refine a_bin (hr:=?_) | refine a_lenS (hr:=?_) | refine a_lenR (hr:=?_) | refine a_pick (hr:=?_) | refine a_store (hr:=?_) | refine a_box (hr:=?_) | refine a_alloc (hr:=?_) | refine a_conv (hr:=?_) | refine a_bytesStr (hr:=?_) | refine a_strBytes (hr:=?_) | refine a_sameSl (hr:=?_) | refine a_idxArr (hr:=?_) | refine a_indexAddr (hr:=?_) | refine a_buildSlice (hr:=?_) | refine a_callN (hcall := k2) (hr:=?_) | refine a_callN (hcall := k3) (hr:=?_) | refine a_callF (hcall := hj) (hr:=?_) | refine a_gT (hr:=?_) | refine a_gF (hr:=?_) | refine a_gU (hr:=?_))
 | (with_reducible refine a_gB (hT := ?_) (hF := ?_) <;> intro hb <;> (try simp at hb) <;> (try contradiction) <;> (try subst hb) <;> (try omega))
 | fail)
  have start : NodP ns b0 m0 0 b0 m0 false := ⟨Nat.zero_le _, by simp, by simp, by simp, by omega⟩
  refine awp_inv (α := Nat × List Int × Bool × Bool) (fun s => [(1, .ptr 1 0), (4, .raw (.bool s.2.2.1)), (5, .raw (.bool s.2.2.2)), (6, .sl 1 (u8s s.2.1)), (39, .sl 8 (ns.map nodeAV)), (40, .raw (.int .i64 ns.length)), (41, .raw (.int .i64 s.1))]) (fun s => hpL [(1, .box (.agg [.raw (.string nm), .sl 8 (ns.map nodeAV), .sl 4 (fs.map flowAV)]))]) (fun s => NodP ns b0 m0 s.1 s.2.1 s.2.2.1 s.2.2.2) (fun s => ns.length - s.1) (0, b0, m0, false) start (zzw) ?_
  clear start k2 k3 hj
  rintro ⟨i, b, lg, ag⟩ g
  simp only at g ⊢
  have gle := g.le
  have gsz := g.sz
  rcases Nat.lt_or_ge i ns.length with hlt | hge
  · have hx := List.getElem?_eq_getElem hlt
    have hsm := hsn _ (List.getElem_mem hlt)
    generalize ns[i] = n at hx hsm
    have gn := g.next hx hsm
    obtain ⟨kd, nnm, up, tx, ky, to, at_, st⟩ := n
    have k1 := c_r14long [nnm, tx, ky, to] (by simp) (by simp; have := hsm.nm; have := hsm.tx; have := hsm.ky; have := hsm.to; simp only at *; omega)
    rw [long4] at k1
    simp only [strs_cons, strs_nil] at k1
    have a1 := txtL_len nnm
    have a2 := txtL_len tx
    have a3 := txtL_len ky
    have a4 := txtL_len to
    have a5 := numR_len (up + 1)
    have a6 := numR_len (at_ + 1)
    have b1 := hsm.nm
    have b2 := hsm.tx
    have b3 := hsm.ky
    have b4 := hsm.to
    have b5 := hsm.kd
    have b6 := hsm.up
    have b7 := hsm.at_
    simp only at b1 b2 b3 b4 b5 b6 b7
    have q1 := c_rText nnm (by omega)
    have q2 := c_r14number (IntKind.wrap .i64 (up + 1))
    have q3 := c_rText tx (by omega)
    have q4 := c_rText ky (by omega)
    have q5 := c_rText to (by omega)
    have q6 := c_r14number (IntKind.wrap .i64 (at_ + 1))
    have q7 := c_r14bit st
    rw [numR_wrap] at q2 q6
    have e1 : nodeR ⟨kd, nnm, up, tx, ky, to, at_, st⟩ = [kd % 256] ++ (txtL nnm ++ (numR (up + 1) ++ (txtL tx ++ (txtL ky ++ (txtL to ++ (numR (at_ + 1) ++ [bitI st])))))) := rfl
    rw [e1] at gn
    have hlN : longN ⟨kd, nnm, up, tx, ky, to, at_, st⟩ = (decide (128 < nnm.size) || decide (128 < tx.size) || decide (128 < ky.size) || decide (128 < to.size)) := rfl
    rw [← hlN] at k1
    have haN : argN ⟨kd, nnm, up, tx, ky, to, at_, st⟩ = (decide (kd < 0 ∨ 255 < kd) || decide (up < -1 ∨ 254 < up) || decide (at_ < -1 ∨ 254 < at_)) := rfl
    generalize longN ⟨kd, nnm, up, tx, ky, to, at_, st⟩ = lN at k1 gn hlN
    generalize hAN : argN ⟨kd, nnm, up, tx, ky, to, at_, st⟩ = aN at gn haN
    rw [show enc 9 nnm.size ++ bytesOf nnm = txtL nnm from rfl] at q1
    rw [show enc 9 tx.size ++ bytesOf tx = txtL tx from rfl] at q3
    rw [show enc 9 ky.size ++ bytesOf ky = txtL ky from rfl] at q4
    rw [show enc 9 to.size ++ bytesOf to = txtL to from rfl] at q5
    generalize txtL nnm = t1 at *
    generalize txtL tx = t2 at *
    generalize txtL ky = t3 at *
    generalize txtL to = t4 at *
    generalize numR (up + 1) = t5 at *
    generalize numR (at_ + 1) = t6 at *
    have hj := c_rJoinT [b, [kd % 256], t1, t5, t2, t3, t4, t6, [bitI st]] (by simp only [List.flatten_cons, List.flatten_nil, List.append_nil, List.length_append, List.length_singleton]; omega) (by simp)
    simp only [rws_cons, rws_nil, List.flatten_cons, List.flatten_nil, List.append_nil] at hj
    rw [show u8s [kd % 256] = [.raw (.int .u8 (kd % 256))] from rfl, show u8s [bitI st] = [.raw (.int .u8 (bitI st))] from rfl] at hj
    rw [show u8s [bitI st] = [.raw (.int .u8 (bitI st))] from rfl] at q7
    have hss := wrap_u8' kd
    clear hLD hAD hRP hRB hsn hsf hlN hsm g
    repeat' (first
 | (with_reducible refine run_n ?_; with_reducible first | refine hK _ _ (by simp) ?_ | refine hK _ _ ?_; clear hK K)
 | (refine zzc ?_)
 | (with_reducible refine a_cond (ht := ?_) (hf := ?_) <;> intro hb <;> (try simp at hb) <;> (try contradiction) <;> (try subst hb) <;> (try omega))
 | (with_reducible first | refine a_move (hr:=?_) | refine a_assign (hr:=?_) | refine a_load (hr:=?_) | refine a_fieldAddr (hr:=?_) | refine a_bin (hr:=?_) | refine a_lenS (hr:=?_) | refine a_lenR (hr:=?_) | refine a_pick (hr:=?_) | refine a_store (hr:=?_) | refine a_box (hr:=?_) | refine a_alloc (hr:=?_) | refine a_conv (hr:=?_) | refine a_bytesStr (hr:=?_) | refine a_strBytes (hr:=?_) | refine a_sameSl (hr:=?_) | refine a_idxArr (hr:=?_) | refine a_indexAddr (hr:=?_) | refine a_buildSlice (hr:=?_) | refine a_gT (hr:=?_) | refine a_gF (hr:=?_) | refine a_gU (hr:=?_))
 | (with_reducible refine a_gB (hT := ?_) (hF := ?_) <;> intro hb <;> (try simp at hb) <;> (try contradiction) <;> (try subst hb) <;> (try omega))
 | fail)
    (with_reducible refine awp_regT (by kernel_rfl) ?_; intro K hK)
    repeat' (first
 | (with_reducible refine run_n ?_; with_reducible first | refine hK _ _ (by simp) ?_ | refine hK _ _ ?_; clear hK K)
 | (refine zzc ?_)
 | (with_reducible refine a_cond (ht := ?_) (hf := ?_) <;> intro hb <;> (try simp at hb) <;> (try contradiction) <;> (try subst hb) <;> (try omega))
 | (with_reducible first | refine a_move (hr:=?_) | refine a_assign (hr:=?_) | refine a_load (hr:=?_) | refine a_fieldAddr (hr:=?_) | refine a_bin (hr:=?_) | refine a_lenS (hr:=?_) | refine a_lenR (hr:=?_) | refine a_pick (hr:=?_) | refine a_store (hr:=?_) | refine a_box (hr:=?_) | refine a_alloc (hr:=?_) | refine a_conv (hr:=?_) | refine a_bytesStr (hr:=?_) | refine a_strBytes (hr:=?_) | refine a_sameSl (hr:=?_) | refine a_idxArr (hr:=?_) | refine a_indexAddr (hr:=?_) | refine a_buildSlice (hr:=?_) | refine a_gT (hr:=?_) | refine a_gF (hr:=?_) | refine a_gU (hr:=?_))
 | (with_reducible refine a_gB (hT := ?_) (hF := ?_) <;> intro hb <;> (try simp at hb) <;> (try contradiction) <;> (try subst hb) <;> (try omega))
 | fail)
    (with_reducible refine awp_regT (by kernel_rfl) ?_; intro K hK)
    repeat' (first
 | (with_reducible refine run_n ?_; with_reducible first | refine hK _ _ (by simp) ?_ | refine hK _ _ ?_; clear hK K)
 | (refine zzc ?_)
 | (with_reducible refine a_cond (ht := ?_) (hf := ?_) <;> intro hb <;> (try simp at hb) <;> (try contradiction) <;> (try subst hb) <;> (try omega))
 | (with_reducible first | refine a_move (hr:=?_) | refine a_assign (hr:=?_) | refine a_load (hr:=?_) | refine a_fieldAddr (hr:=?_) | refine a_bin (hr:=?_) | refine a_lenS (hr:=?_) | refine a_lenR (hr:=?_) | refine a_pick (hr:=?_) | refine a_store (hr:=?_) | refine a_box (hr:=?_) | refine a_alloc (hr:=?_) | refine a_conv (hr:=?_) | refine a_bytesStr (hr:=?_) | refine a_strBytes (hr:=?_) | refine a_sameSl (hr:=?_) | refine a_idxArr (hr:=?_) | refine a_indexAddr (hr:=?_) | refine a_buildSlice (hr:=?_) | refine a_gT (hr:=?_) | refine a_gF (hr:=?_) | refine a_gU (hr:=?_))
 | (with_reducible refine a_gB (hT := ?_) (hF := ?_) <;> intro hb <;> (try simp at hb) <;> (try contradiction) <;> (try subst hb) <;> (try omega))
 | fail)
    refine wp_join ⟨envA [(1, .ptr 1 0), (4, .raw (.bool (lg || lN))), (5, .raw (.bool ag)), (6, .sl 1 (u8s b)), (8, .ptr 8 0), (39, .sl 8 (ns.map nodeAV)), (40, .raw (.int .i64 ns.length)), (41, .raw (.int .i64 i))], hpL [(1, .box (.agg [.raw (.string nm), .sl 8 (ns.map nodeAV), .sl 4 (fs.map flowAV)])), (8, .box (nodeAV ⟨kd, nnm, up, tx, ky, to, at_, st⟩))]⟩ ?_ ?_
    · cases lg with
      | true =>
        rw [Bool.true_or]
        (with_reducible refine awp_regT (by kernel_rfl) ?_; intro K hK)
        repeat' (first
 | (with_reducible refine run_n ?_; with_reducible first | refine hK _ _ (by simp) ?_ | refine hK _ _ ?_; clear hK K)
 | (refine zzc ?_)
 | (with_reducible refine a_cond (ht := ?_) (hf := ?_) <;> intro hb <;> (try simp at hb) <;> (try contradiction) <;> (try subst hb) <;> (try omega))
 | (with_reducible first | refine a_move (hr:=?_) | refine a_assign (hr:=?_) | refine a_load (hr:=?_) | refine a_fieldAddr (hr:=?_) | refine a_bin (hr:=?_) | refine a_lenS (hr:=?_) | refine a_lenR (hr:=?_) | refine a_pick (hr:=?_) | refine a_store (hr:=?_) | refine a_box (hr:=?_) | refine a_alloc (hr:=?_) | refine a_conv (hr:=?_) | refine a_bytesStr (hr:=?_) | refine a_strBytes (hr:=?_) | refine a_sameSl (hr:=?_) | refine a_idxArr (hr:=?_) | refine a_indexAddr (hr:=?_) | refine a_buildSlice (hr:=?_) | refine a_callF (hcall := k1) (hr:=?_) | refine a_gT (hr:=?_) | refine a_gF (hr:=?_) | refine a_gU (hr:=?_))
 | (with_reducible refine a_gB (hT := ?_) (hF := ?_) <;> intro hb <;> (try simp at hb) <;> (try contradiction) <;> (try subst hb) <;> (try omega))
 | fail)
        exact zzw
      | false =>
        rw [Bool.false_or]
        (with_reducible refine awp_regT (by kernel_rfl) ?_; intro K hK)
        repeat' (first
 | (with_reducible refine run_n ?_; with_reducible first | refine hK _ _ (by simp) ?_ | refine hK _ _ ?_; clear hK K)
 | (refine zzc ?_)
 | (with_reducible refine a_cond (ht := ?_) (hf := ?_) <;> intro hb <;> (try simp at hb) <;> (try contradiction) <;> (try subst hb) <;> (try omega))
 | (with_reducible first | refine a_move (hr:=?_) | refine a_assign (hr:=?_) | refine a_load (hr:=?_) | refine a_fieldAddr (hr:=?_) | refine a_bin (hr:=?_) | refine a_lenS (hr:=?_) | refine a_lenR (hr:=?_) | refine a_pick (hr:=?_) | refine a_store (hr:=?_) | refine a_box (hr:=?_) | refine a_alloc (hr:=?_) | refine a_conv (hr:=?_) | refine a_bytesStr (hr:=?_) | refine a_strBytes (hr:=?_) | refine a_sameSl (hr:=?_) | refine a_idxArr (hr:=?_) | refine a_indexAddr (hr:=?_) | refine a_buildSlice (hr:=?_) | refine a_callF (hcall := k1) (hr:=?_) | refine a_gT (hr:=?_) | refine a_gF (hr:=?_) | refine a_gU (hr:=?_))
 | (with_reducible refine a_gB (hT := ?_) (hF := ?_) <;> intro hb <;> (try simp at hb) <;> (try contradiction) <;> (try subst hb) <;> (try omega))
 | fail)
        exact zzw
    clear k1
    repeat' (first
 | (with_reducible refine run_n ?_; with_reducible first | refine hK _ _ (by simp) ?_ | refine hK _ _ ?_; clear hK K)
 | (refine zzc ?_)
 | (with_reducible refine a_cond (ht := ?_) (hf := ?_) <;> intro hb <;> (try simp at hb) <;> (try contradiction) <;> (try subst hb) <;> (try omega))
 | (with_reducible first | refine a_move (hr:=?_) | refine a_assign (hr:=?_) | refine a_load (hr:=?_) | refine a_fieldAddr (hr:=?_) | refine a_bin (hr:=?_) | refine a_lenS (hr:=?_) | refine a_lenR (hr:=?_) | refine a_pick (hr:=?_) | refine a_store (hr:=?_) | refine a_box (hr:=?_) | refine a_alloc (hr:=?_) | refine a_conv (hr:=?_) | refine a_bytesStr (hr:=?_) | refine a_strBytes (hr:=?_) | refine a_sameSl (hr:=?_) | refine a_idxArr (hr:=?_) | refine a_indexAddr (hr:=?_) | refine a_buildSlice (hr:=?_) | refine a_gT (hr:=?_) | refine a_gF (hr:=?_) | refine a_gU (hr:=?_))
 | (with_reducible refine a_gB (hT := ?_) (hF := ?_) <;> intro hb <;> (try simp at hb) <;> (try contradiction) <;> (try subst hb) <;> (try omega))
 | fail)
    refine wp_join ⟨envA [(1, .ptr 1 0), (4, .raw (.bool (lg || lN))), (5, .raw (.bool (ag || aN))), (6, .sl 1 (u8s b)), (8, .ptr 8 0), (39, .sl 8 (ns.map nodeAV)), (40, .raw (.int .i64 ns.length)), (41, .raw (.int .i64 i))], hpL [(1, .box (.agg [.raw (.string nm), .sl 8 (ns.map nodeAV), .sl 4 (fs.map flowAV)])), (8, .box (nodeAV ⟨kd, nnm, up, tx, ky, to, at_, st⟩))]⟩ ?_ ?_
    · clear hj q1 q2 q3 q4 q5 q6 q7
      generalize (lg || lN) = lgg
      cases ag with
      | true =>
        rw [Bool.true_or]
        (with_reducible refine awp_regT (by kernel_rfl) ?_; intro K hK)
        repeat' (first
 | (with_reducible refine run_n ?_; with_reducible first | refine hK _ _ (by simp) ?_ | refine hK _ _ ?_; clear hK K)
 | (refine zzc ?_)
 | (with_reducible refine a_cond (ht := ?_) (hf := ?_) <;> intro hb <;> (try simp at hb) <;> (try contradiction) <;> (try subst hb) <;> (try omega))
 | (with_reducible first | refine a_move (hr:=?_) | refine a_assign (hr:=?_) | refine a_load (hr:=?_) | refine a_fieldAddr (hr:=?_) | refine a_bin (hr:=?_) | refine a_lenS (hr:=?_) | refine a_lenR (hr:=?_) | refine a_pick (hr:=?_) | refine a_store (hr:=?_) | refine a_box (hr:=?_) | refine a_alloc (hr:=?_) | refine a_conv (hr:=?_) | refine a_bytesStr (hr:=?_) | refine a_strBytes (hr:=?_) | refine a_sameSl (hr:=?_) | refine a_idxArr (hr:=?_) | refine a_indexAddr (hr:=?_) | refine a_buildSlice (hr:=?_) | refine a_gT (hr:=?_) | refine a_gF (hr:=?_) | refine a_gU (hr:=?_))
 | (with_reducible refine a_gB (hT := ?_) (hF := ?_) <;> intro hb <;> (try simp at hb) <;> (try contradiction) <;> (try subst hb) <;> (try omega))
 | fail)
        exact zzw
      | false =>
        rw [Bool.false_or, haN]
        by_cases c1 : kd < 0
        · rw [decide_eq_true (Or.inl c1)]
          simp only [Bool.true_or]
          (with_reducible refine awp_regT (by kernel_rfl) ?_; intro K hK)
          repeat' (first
 | (with_reducible refine run_n ?_; with_reducible first | refine hK _ _ (by simp) ?_ | refine hK _ _ ?_; clear hK K)
 | (refine zzc ?_)
 | (with_reducible refine a_cond (ht := ?_) (hf := ?_) <;> intro hb <;> (try simp at hb) <;> (try contradiction) <;> (try subst hb) <;> (try omega))
 | (with_reducible first | refine a_move (hr:=?_) | refine a_assign (hr:=?_) | refine a_load (hr:=?_) | refine a_fieldAddr (hr:=?_) | refine a_bin (hr:=?_) | refine a_lenS (hr:=?_) | refine a_lenR (hr:=?_) | refine a_pick (hr:=?_) | refine a_store (hr:=?_) | refine a_box (hr:=?_) | refine a_alloc (hr:=?_) | refine a_conv (hr:=?_) | refine a_bytesStr (hr:=?_) | refine a_strBytes (hr:=?_) | refine a_sameSl (hr:=?_) | refine a_idxArr (hr:=?_) | refine a_indexAddr (hr:=?_) | refine a_buildSlice (hr:=?_) | refine a_gT (hr:=?_) | refine a_gF (hr:=?_) | refine a_gU (hr:=?_))
 | (with_reducible refine a_gB (hT := ?_) (hF := ?_) <;> intro hb <;> (try simp at hb) <;> (try contradiction) <;> (try subst hb) <;> (try omega))
 | fail)
          exact zzw
        by_cases c2 : 255 < kd
        · rw [decide_eq_true (Or.inr c2)]
          simp only [Bool.true_or]
          (with_reducible refine awp_regT (by kernel_rfl) ?_; intro K hK)
          repeat' (first
 | (with_reducible refine run_n ?_; with_reducible first | refine hK _ _ (by simp) ?_ | refine hK _ _ ?_; clear hK K)
 | (refine zzc ?_)
 | (with_reducible refine a_cond (ht := ?_) (hf := ?_) <;> intro hb <;> (try simp at hb) <;> (try contradiction) <;> (try subst hb) <;> (try omega))
 | (with_reducible first | refine a_move (hr:=?_) | refine a_assign (hr:=?_) | refine a_load (hr:=?_) | refine a_fieldAddr (hr:=?_) | refine a_bin (hr:=?_) | refine a_lenS (hr:=?_) | refine a_lenR (hr:=?_) | refine a_pick (hr:=?_) | refine a_store (hr:=?_) | refine a_box (hr:=?_) | refine a_alloc (hr:=?_) | refine a_conv (hr:=?_) | refine a_bytesStr (hr:=?_) | refine a_strBytes (hr:=?_) | refine a_sameSl (hr:=?_) | refine a_idxArr (hr:=?_) | refine a_indexAddr (hr:=?_) | refine a_buildSlice (hr:=?_) | refine a_gT (hr:=?_) | refine a_gF (hr:=?_) | refine a_gU (hr:=?_))
 | (with_reducible refine a_gB (hT := ?_) (hF := ?_) <;> intro hb <;> (try simp at hb) <;> (try contradiction) <;> (try subst hb) <;> (try omega))
 | fail)
          exact zzw
        rw [decide_eq_false (show ¬ (kd < 0 ∨ 255 < kd) by omega), Bool.false_or]
        by_cases c3 : up < -1
        · rw [decide_eq_true (Or.inl c3)]
          simp only [Bool.true_or]
          (with_reducible refine awp_regT (by kernel_rfl) ?_; intro K hK)
          repeat' (first
 | (with_reducible refine run_n ?_; with_reducible first | refine hK _ _ (by simp) ?_ | refine hK _ _ ?_; clear hK K)
 | (refine zzc ?_)
 | (with_reducible refine a_cond (ht := ?_) (hf := ?_) <;> intro hb <;> (try simp at hb) <;> (try contradiction) <;> (try subst hb) <;> (try omega))
 | (with_reducible first | refine a_move (hr:=?_) | refine a_assign (hr:=?_) | refine a_load (hr:=?_) | refine a_fieldAddr (hr:=?_) | refine a_bin (hr:=?_) | refine a_lenS (hr:=?_) | refine a_lenR (hr:=?_) | refine a_pick (hr:=?_) | refine a_store (hr:=?_) | refine a_box (hr:=?_) | refine a_alloc (hr:=?_) | refine a_conv (hr:=?_) | refine a_bytesStr (hr:=?_) | refine a_strBytes (hr:=?_) | refine a_sameSl (hr:=?_) | refine a_idxArr (hr:=?_) | refine a_indexAddr (hr:=?_) | refine a_buildSlice (hr:=?_) | refine a_gT (hr:=?_) | refine a_gF (hr:=?_) | refine a_gU (hr:=?_))
 | (with_reducible refine a_gB (hT := ?_) (hF := ?_) <;> intro hb <;> (try simp at hb) <;> (try contradiction) <;> (try subst hb) <;> (try omega))
 | fail)
          exact zzw
        by_cases c4 : 254 < up
        · rw [decide_eq_true (Or.inr c4)]
          simp only [Bool.true_or]
          (with_reducible refine awp_regT (by kernel_rfl) ?_; intro K hK)
          repeat' (first
 | (with_reducible refine run_n ?_; with_reducible first | refine hK _ _ (by simp) ?_ | refine hK _ _ ?_; clear hK K)
 | (refine zzc ?_)
 | (with_reducible refine a_cond (ht := ?_) (hf := ?_) <;> intro hb <;> (try simp at hb) <;> (try contradiction) <;> (try subst hb) <;> (try omega))
 | (with_reducible first | refine a_move (hr:=?_) | refine a_assign (hr:=?_) | refine a_load (hr:=?_) | refine a_fieldAddr (hr:=?_) | refine a_bin (hr:=?_) | refine a_lenS (hr:=?_) | refine a_lenR (hr:=?_) | refine a_pick (hr:=?_) | refine a_store (hr:=?_) | refine a_box (hr:=?_) | refine a_alloc (hr:=?_) | refine a_conv (hr:=?_) | refine a_bytesStr (hr:=?_) | refine a_strBytes (hr:=?_) | refine a_sameSl (hr:=?_) | refine a_idxArr (hr:=?_) | refine a_indexAddr (hr:=?_) | refine a_buildSlice (hr:=?_) | refine a_gT (hr:=?_) | refine a_gF (hr:=?_) | refine a_gU (hr:=?_))
 | (with_reducible refine a_gB (hT := ?_) (hF := ?_) <;> intro hb <;> (try simp at hb) <;> (try contradiction) <;> (try subst hb) <;> (try omega))
 | fail)
          exact zzw
        rw [decide_eq_false (show ¬ (up < -1 ∨ 254 < up) by omega), Bool.false_or]
        by_cases c5 : at_ < -1
        · rw [decide_eq_true (Or.inl c5)]
          (with_reducible refine awp_regT (by kernel_rfl) ?_; intro K hK)
          repeat' (first
 | (with_reducible refine run_n ?_; with_reducible first | refine hK _ _ (by simp) ?_ | refine hK _ _ ?_; clear hK K)
 | (refine zzc ?_)
 | (with_reducible refine a_cond (ht := ?_) (hf := ?_) <;> intro hb <;> (try simp at hb) <;> (try contradiction) <;> (try subst hb) <;> (try omega))
 | (with_reducible first | refine a_move (hr:=?_) | refine a_assign (hr:=?_) | refine a_load (hr:=?_) | refine a_fieldAddr (hr:=?_) | refine a_bin (hr:=?_) | refine a_lenS (hr:=?_) | refine a_lenR (hr:=?_) | refine a_pick (hr:=?_) | refine a_store (hr:=?_) | refine a_box (hr:=?_) | refine a_alloc (hr:=?_) | refine a_conv (hr:=?_) | refine a_bytesStr (hr:=?_) | refine a_strBytes (hr:=?_) | refine a_sameSl (hr:=?_) | refine a_idxArr (hr:=?_) | refine a_indexAddr (hr:=?_) | refine a_buildSlice (hr:=?_) | refine a_gT (hr:=?_) | refine a_gF (hr:=?_) | refine a_gU (hr:=?_))
 | (with_reducible refine a_gB (hT := ?_) (hF := ?_) <;> intro hb <;> (try simp at hb) <;> (try contradiction) <;> (try subst hb) <;> (try omega))
 | fail)
          exact zzw
        by_cases c6 : 254 < at_
        · rw [decide_eq_true (Or.inr c6)]
          (with_reducible refine awp_regT (by kernel_rfl) ?_; intro K hK)
          repeat' (first
 | (with_reducible refine run_n ?_; with_reducible first | refine hK _ _ (by simp) ?_ | refine hK _ _ ?_; clear hK K)
 | (refine zzc ?_)
 | (with_reducible refine a_cond (ht := ?_) (hf := ?_) <;> intro hb <;> (try simp at hb) <;> (try contradiction) <;> (try subst hb) <;> (try omega))
 | (with_reducible first | refine a_move (hr:=?_) | refine a_assign (hr:=?_) | refine a_load (hr:=?_) | refine a_fieldAddr (hr:=?_) | refine a_bin (hr:=?_) | refine a_lenS (hr:=?_) | refine a_lenR (hr:=?_) | refine a_pick (hr:=?_) | refine a_store (hr:=?_) | refine a_box (hr:=?_) | refine a_alloc (hr:=?_) | refine a_conv (hr:=?_) | refine a_bytesStr (hr:=?_) | refine a_strBytes (hr:=?_) | refine a_sameSl (hr:=?_) | refine a_idxArr (hr:=?_) | refine a_indexAddr (hr:=?_) | refine a_buildSlice (hr:=?_) | refine a_gT (hr:=?_) | refine a_gF (hr:=?_) | refine a_gU (hr:=?_))
 | (with_reducible refine a_gB (hT := ?_) (hF := ?_) <;> intro hb <;> (try simp at hb) <;> (try contradiction) <;> (try subst hb) <;> (try omega))
 | fail)
          exact zzw
        rw [decide_eq_false (show ¬ (at_ < -1 ∨ 254 < at_) by omega)]
        (with_reducible refine awp_regT (by kernel_rfl) ?_; intro K hK)
        repeat' (first
 | (with_reducible refine run_n ?_; with_reducible first | refine hK _ _ (by simp) ?_ | refine hK _ _ ?_; clear hK K)
 | (refine zzc ?_)
 | (with_reducible refine a_cond (ht := ?_) (hf := ?_) <;> intro hb <;> (try simp at hb) <;> (try contradiction) <;> (try subst hb) <;> (try omega))
 | (with_reducible first | refine a_move (hr:=?_) | refine a_assign (hr:=?_) | refine a_load (hr:=?_) | refine a_fieldAddr (hr:=?_) | refine a_bin (hr:=?_) | refine a_lenS (hr:=?_) | refine a_lenR (hr:=?_) | refine a_pick (hr:=?_) | refine a_store (hr:=?_) | refine a_box (hr:=?_) | refine a_alloc (hr:=?_) | refine a_conv (hr:=?_) | refine a_bytesStr (hr:=?_) | refine a_strBytes (hr:=?_) | refine a_sameSl (hr:=?_) | refine a_idxArr (hr:=?_) | refine a_indexAddr (hr:=?_) | refine a_buildSlice (hr:=?_) | refine a_gT (hr:=?_) | refine a_gF (hr:=?_) | refine a_gU (hr:=?_))
 | (with_reducible refine a_gB (hT := ?_) (hF := ?_) <;> intro hb <;> (try simp at hb) <;> (try contradiction) <;> (try subst hb) <;> (try omega))
 | fail)
        exact zzw
    generalize (lg || lN) = lgg at gn ⊢
    generalize (ag || aN) = agg at gn ⊢
    clear haN hAN
    repeat' (first
 | (with_reducible refine run_n ?_; with_reducible first | refine hK _ _ (by simp) ?_ | refine hK _ _ ?_; clear hK K)
 | (refine zzc ?_)
 | (with_reducible refine awp_regT (by kernel_rfl) ?_; intro K hK)
 | (with_reducible refine awp_regAM (id := 3) [(29, some 1), (32, some 1)] mixed (by kernel_rfl) (by kernel_rfl) ?_; intro K hK)
 | (with_reducible refine awp_regAM (id := 9) [(90, some 8), (94, some 8), (97, some 8), (101, some 8), (104, some 8), (107, some 8), (110, some 8), (114, some 8)] mixed (by kernel_rfl) (by kernel_rfl) ?_; intro K hK)
 | (with_reducible refine awp_regAM (id := 17) [(163, some 10), (166, some 10), (169, some 10), (172, some 10)] mixed (by kernel_rfl) (by kernel_rfl) ?_; intro K hK)
 | (with_reducible refine a_cond (ht := ?_) (hf := ?_) <;> intro hb <;> (try simp at hb) <;> (try contradiction) <;> (try subst hb) <;> (try omega))
 | (with_reducible first | refine a_move (hr:=?_) | refine a_assign (hr:=?_) | refine a_load (hr:=?_) | refine a_fieldAddr (hr:=?_) | refine a_bin (hr:=?_) | refine a_lenS (hr:=?_) | refine a_lenR (hr:=?_) | refine a_pick (hr:=?_) | refine a_store (hr:=?_) | refine a_box (hr:=?_) | refine a_alloc (hr:=?_) | refine a_conv (hr:=?_) | refine a_bytesStr (hr:=?_) | refine a_strBytes (hr:=?_) | refine a_sameSl (hr:=?_) | refine a_idxArr (hr:=?_) | refine a_indexAddr (hr:=?_) | refine a_buildSlice (hr:=?_) | refine a_callN (hcall := q1) (hr:=?_) | refine a_callN (hcall := q2) (hr:=?_) | refine a_callN (hcall := q3) (hr:=?_) | refine a_callN (hcall := q4) (hr:=?_) | refine a_callN (hcall := q5) (hr:=?_) | refine a_callN (hcall := q6) (hr:=?_) | refine a_callN (hcall := q7) (hr:=?_) | refine a_callF (hcall := hj) (hr:=?_) | refine a_gT (hr:=?_) | refine a_gF (hr:=?_) | refine a_gU (hr:=?_))
 | (with_reducible refine a_gB (hT := ?_) (hF := ?_) <;> intro hb <;> (try simp at hb) <;> (try contradiction) <;> (try subst hb) <;> (try omega))
 | fail)
    exact ⟨(i + 1, _, lgg, agg), by simp only; omega, gn, zzw⟩
  have hi : i = ns.length := by omega
  have ge := g.eq
  have gl := g.lg
  have ga := g.ag
  rw [hi, List.take_length] at ge gl ga
  rw [← gl] at hLD
  rw [← ga] at hAD
  have k3 := c_r14number fs.length
  have a2 := numR_len fs.length
  have hj := c_rJoinT [b, numR fs.length] (by simp only [List.flatten_cons, List.flatten_nil, List.append_nil, List.length_append]; omega) (by simp)
  simp only [rws_cons, rws_nil, List.flatten_cons, List.flatten_nil, List.append_nil] at hj
  rw [← ge] at hRB
  have hb1 : (b ++ numR fs.length).length ≤ 6000000 := by rw [List.length_append]; omega
  generalize numR fs.length = tl2 at k3 hj hRB hb1
  generalize hb2 : b ++ tl2 = b1 at hj hRB hb1
  subst hi
  clear g ge gl ga hsn
  repeat' (first
 | (with_reducible refine run_n ?_; with_reducible first | refine hK _ _ (by simp) ?_ | refine hK _ _ ?_; clear hK K)
 | (refine zzc ?_)
 | (with_reducible refine awp_regT (by kernel_rfl) ?_; intro K hK)
 | (with_reducible refine awp_regAM (id := 3) [(29, some 1), (32, some 1)] mixed (by kernel_rfl) (by kernel_rfl) ?_; intro K hK)
 | (with_reducible refine awp_regAM (id := 9) [(90, some 8), (94, some 8), (97, some 8), (101, some 8), (104, some 8), (107, some 8), (110, some 8), (114, some 8)] mixed (by kernel_rfl) (by kernel_rfl) ?_; intro K hK)
 | (with_reducible refine awp_regAM (id := 17) [(163, some 10), (166, some 10), (169, some 10), (172, some 10)] mixed (by kernel_rfl) (by kernel_rfl) ?_; intro K hK)
 | (with_reducible refine a_cond (ht := ?_) (hf := ?_) <;> intro hb <;> (try simp at hb) <;> (try contradiction) <;> (try subst hb) <;> (try omega))
 | (with_reducible first | refine a_move (hr:=?_) | refine a_assign (hr:=?_) | refine a_load (hr:=?_) | refine a_fieldAddr (hr:=?_) | refine a_bin (hr:=?_) | refine a_lenS (hr:=?_) | refine a_lenR (hr:=?_) | refine a_pick (hr:=?_) | refine a_store (hr:=?_) | refine a_box (hr:=?_) | refine a_alloc (hr:=?_) | refine a_conv (hr:=?_) | refine a_bytesStr (hr:=?_) | refine a_strBytes (hr:=?_) | refine a_sameSl (hr:=?_) | refine a_idxArr (hr:=?_) | refine a_indexAddr (hr:=?_) | refine a_buildSlice (hr:=?_) | refine a_callN (hcall := k3) (hr:=?_) | refine a_callF (hcall := hj) (hr:=?_) | refine a_gT (hr:=?_) | refine a_gF (hr:=?_) | refine a_gU (hr:=?_))
 | (with_reducible refine a_gB (hT := ?_) (hF := ?_) <;> intro hb <;> (try simp at hb) <;> (try contradiction) <;> (try subst hb) <;> (try omega))
 | fail)
  have start : FloP fs b1 lg ag 0 b1 lg ag := ⟨Nat.zero_le _, by simp, by simp, by simp, by omega⟩
  refine awp_inv (α := Nat × List Int × Bool × Bool) (fun s => [(1, .ptr 1 0), (4, .raw (.bool s.2.2.1)), (5, .raw (.bool s.2.2.2)), (6, .sl 1 (u8s s.2.1)), (128, .sl 4 (fs.map flowAV)), (129, .raw (.int .i64 fs.length)), (130, .raw (.int .i64 s.1))]) (fun s => hpL [(1, .box (.agg [.raw (.string nm), .sl 8 (ns.map nodeAV), .sl 4 (fs.map flowAV)]))]) (fun s => FloP fs b1 lg ag s.1 s.2.1 s.2.2.1 s.2.2.2) (fun s => fs.length - s.1) (0, b1, lg, ag) start (zzw) ?_
  clear start k3 hj hge hb2
  rintro ⟨j, c, lg2, ag2⟩ g
  simp only at g ⊢
  have gle2 := g.le
  have gsz2 := g.sz
  rcases Nat.lt_or_ge j fs.length with hlt | hge
  · have hx := List.getElem?_eq_getElem hlt
    have hsm := hsf _ (List.getElem_mem hlt)
    generalize fs[j] = f at hx hsm
    have gn := g.next hx hsm
    obtain ⟨fr, to, cd, el⟩ := f
    have b1' := hsm.cd
    have b5 := hsm.fr
    have b6 := hsm.to
    simp only at b1' b5 b6
    have k1 := c_r14long [cd] (by simp) (by simp; omega)
    rw [long1] at k1
    simp only [strs_cons, strs_nil] at k1
    have a1 := txtL_len cd
    have a5 := numR_len fr
    have a6 := numR_len to
    have q1 := c_r14number fr
    have q2 := c_r14number to
    have q3 := c_rText cd (by omega)
    have q4 := c_r14bit el
    have e1 : flowR ⟨fr, to, cd, el⟩ = numR fr ++ (numR to ++ (txtL cd ++ [bitI el])) := rfl
    rw [e1] at gn
    have hlN : longF ⟨fr, to, cd, el⟩ = decide (128 < cd.size) := rfl
    rw [← hlN] at k1
    have haN : argF ⟨fr, to, cd, el⟩ = (decide (fr < 0 ∨ 254 < fr) || decide (to < 0 ∨ 254 < to)) := rfl
    generalize longF ⟨fr, to, cd, el⟩ = lN at k1 gn hlN
    generalize hAN : argF ⟨fr, to, cd, el⟩ = aN at gn haN
    rw [show enc 9 cd.size ++ bytesOf cd = txtL cd from rfl] at q3
    generalize txtL cd = t1 at *
    generalize numR fr = t5 at *
    generalize numR to = t6 at *
    have hj := c_rJoinT [c, t5, t6, t1, [bitI el]] (by simp only [List.flatten_cons, List.flatten_nil, List.append_nil, List.length_append, List.length_singleton]; omega) (by simp)
    simp only [rws_cons, rws_nil, List.flatten_cons, List.flatten_nil, List.append_nil] at hj
    rw [show u8s [bitI el] = [.raw (.int .u8 (bitI el))] from rfl] at hj q4
    clear hLD hAD hRP hRB hsf hlN hsm g
    repeat' (first
 | (with_reducible refine run_n ?_; with_reducible first | refine hK _ _ (by simp) ?_ | refine hK _ _ ?_; clear hK K)
 | (refine zzc ?_)
 | (with_reducible refine a_cond (ht := ?_) (hf := ?_) <;> intro hb <;> (try simp at hb) <;> (try contradiction) <;> (try subst hb) <;> (try omega))
 | (with_reducible first | refine a_move (hr:=?_) | refine a_assign (hr:=?_) | refine a_load (hr:=?_) | refine a_fieldAddr (hr:=?_) | refine a_bin (hr:=?_) | refine a_lenS (hr:=?_) | refine a_lenR (hr:=?_) | refine a_pick (hr:=?_) | refine a_store (hr:=?_) | refine a_box (hr:=?_) | refine a_alloc (hr:=?_) | refine a_conv (hr:=?_) | refine a_bytesStr (hr:=?_) | refine a_strBytes (hr:=?_) | refine a_sameSl (hr:=?_) | refine a_idxArr (hr:=?_) | refine a_indexAddr (hr:=?_) | refine a_buildSlice (hr:=?_) | refine a_gT (hr:=?_) | refine a_gF (hr:=?_) | refine a_gU (hr:=?_))
 | (with_reducible refine a_gB (hT := ?_) (hF := ?_) <;> intro hb <;> (try simp at hb) <;> (try contradiction) <;> (try subst hb) <;> (try omega))
 | fail)
    (with_reducible refine awp_regT (by kernel_rfl) ?_; intro K hK)
    repeat' (first
 | (with_reducible refine run_n ?_; with_reducible first | refine hK _ _ (by simp) ?_ | refine hK _ _ ?_; clear hK K)
 | (refine zzc ?_)
 | (with_reducible refine a_cond (ht := ?_) (hf := ?_) <;> intro hb <;> (try simp at hb) <;> (try contradiction) <;> (try subst hb) <;> (try omega))
 | (with_reducible first | refine a_move (hr:=?_) | refine a_assign (hr:=?_) | refine a_load (hr:=?_) | refine a_fieldAddr (hr:=?_) | refine a_bin (hr:=?_) | refine a_lenS (hr:=?_) | refine a_lenR (hr:=?_) | refine a_pick (hr:=?_) | refine a_store (hr:=?_) | refine a_box (hr:=?_) | refine a_alloc (hr:=?_) | refine a_conv (hr:=?_) | refine a_bytesStr (hr:=?_) | refine a_strBytes (hr:=?_) | refine a_sameSl (hr:=?_) | refine a_idxArr (hr:=?_) | refine a_indexAddr (hr:=?_) | refine a_buildSlice (hr:=?_) | refine a_gT (hr:=?_) | refine a_gF (hr:=?_) | refine a_gU (hr:=?_))
 | (with_reducible refine a_gB (hT := ?_) (hF := ?_) <;> intro hb <;> (try simp at hb) <;> (try contradiction) <;> (try subst hb) <;> (try omega))
 | fail)
    (with_reducible refine awp_regT (by kernel_rfl) ?_; intro K hK)
    repeat' (first
 | (with_reducible refine run_n ?_; with_reducible first | refine hK _ _ (by simp) ?_ | refine hK _ _ ?_; clear hK K)
 | (refine zzc ?_)
 | (with_reducible refine a_cond (ht := ?_) (hf := ?_) <;> intro hb <;> (try simp at hb) <;> (try contradiction) <;> (try subst hb) <;> (try omega))
 | (with_reducible first | refine a_move (hr:=?_) | refine a_assign (hr:=?_) | refine a_load (hr:=?_) | refine a_fieldAddr (hr:=?_) | refine a_bin (hr:=?_) | refine a_lenS (hr:=?_) | refine a_lenR (hr:=?_) | refine a_pick (hr:=?_) | refine a_store (hr:=?_) | refine a_box (hr:=?_) | refine a_alloc (hr:=?_) | refine a_conv (hr:=?_) | refine a_bytesStr (hr:=?_) | refine a_strBytes (hr:=?_) | refine a_sameSl (hr:=?_) | refine a_idxArr (hr:=?_) | refine a_indexAddr (hr:=?_) | refine a_buildSlice (hr:=?_) | refine a_gT (hr:=?_) | refine a_gF (hr:=?_) | refine a_gU (hr:=?_))
 | (with_reducible refine a_gB (hT := ?_) (hF := ?_) <;> intro hb <;> (try simp at hb) <;> (try contradiction) <;> (try subst hb) <;> (try omega))
 | fail)
    refine wp_join ⟨envA [(1, .ptr 1 0), (4, .raw (.bool (lg2 || lN))), (5, .raw (.bool ag2)), (6, .sl 1 (u8s c)), (10, .ptr 10 0), (128, .sl 4 (fs.map flowAV)), (129, .raw (.int .i64 fs.length)), (130, .raw (.int .i64 j))], hpL [(1, .box (.agg [.raw (.string nm), .sl 8 (ns.map nodeAV), .sl 4 (fs.map flowAV)])), (10, .box (flowAV ⟨fr, to, cd, el⟩))]⟩ ?_ ?_
    · cases lg2 with
      | true =>
        rw [Bool.true_or]
        (with_reducible refine awp_regT (by kernel_rfl) ?_; intro K hK)
        repeat' (first
 | (with_reducible refine run_n ?_; with_reducible first | refine hK _ _ (by simp) ?_ | refine hK _ _ ?_; clear hK K)
 | (refine zzc ?_)
 | (with_reducible refine a_cond (ht := ?_) (hf := ?_) <;> intro hb <;> (try simp at hb) <;> (try contradiction) <;> (try subst hb) <;> (try omega))
 | (with_reducible first | refine a_move (hr:=?_) | refine a_assign (hr:=?_) | refine a_load (hr:=?_) | refine a_fieldAddr (hr:=?_) | refine a_bin (hr:=?_) | refine a_lenS (hr:=?_) | refine a_lenR (hr:=?_) | refine a_pick (hr:=?_) | refine a_store (hr:=?_) | refine a_box (hr:=?_) | refine a_alloc (hr:=?_) | refine a_conv (hr:=?_) | refine a_bytesStr (hr:=?_) | refine a_strBytes (hr:=?_) | refine a_sameSl (hr:=?_) | refine a_idxArr (hr:=?_) | refine a_indexAddr (hr:=?_) | refine a_buildSlice (hr:=?_) | refine a_callF (hcall := k1) (hr:=?_) | refine a_gT (hr:=?_) | refine a_gF (hr:=?_) | refine a_gU (hr:=?_))
 | (with_reducible refine a_gB (hT := ?_) (hF := ?_) <;> intro hb <;> (try simp at hb) <;> (try contradiction) <;> (try subst hb) <;> (try omega))
 | fail)
        exact zzw
      | false =>
        rw [Bool.false_or]
        (with_reducible refine awp_regT (by kernel_rfl) ?_; intro K hK)
        repeat' (first
 | (with_reducible refine run_n ?_; with_reducible first | refine hK _ _ (by simp) ?_ | refine hK _ _ ?_; clear hK K)
 | (refine zzc ?_)
 | (with_reducible refine a_cond (ht := ?_) (hf := ?_) <;> intro hb <;> (try simp at hb) <;> (try contradiction) <;> (try subst hb) <;> (try omega))
 | (with_reducible first | refine a_move (hr:=?_) | refine a_assign (hr:=?_) | refine a_load (hr:=?_) | refine a_fieldAddr (hr:=?_) | refine a_bin (hr:=?_) | refine a_lenS (hr:=?_) | refine a_lenR (hr:=?_) | refine a_pick (hr:=?_) | refine a_store (hr:=?_) | refine a_box (hr:=?_) | refine a_alloc (hr:=?_) | refine a_conv (hr:=?_) | refine a_bytesStr (hr:=?_) | refine a_strBytes (hr:=?_) | refine a_sameSl (hr:=?_) | refine a_idxArr (hr:=?_) | refine a_indexAddr (hr:=?_) | refine a_buildSlice (hr:=?_) | refine a_callF (hcall := k1) (hr:=?_) | refine a_gT (hr:=?_) | refine a_gF (hr:=?_) | refine a_gU (hr:=?_))
 | (with_reducible refine a_gB (hT := ?_) (hF := ?_) <;> intro hb <;> (try simp at hb) <;> (try contradiction) <;> (try subst hb) <;> (try omega))
 | fail)
        exact zzw
    clear k1
    repeat' (first
 | (with_reducible refine run_n ?_; with_reducible first | refine hK _ _ (by simp) ?_ | refine hK _ _ ?_; clear hK K)
 | (refine zzc ?_)
 | (with_reducible refine a_cond (ht := ?_) (hf := ?_) <;> intro hb <;> (try simp at hb) <;> (try contradiction) <;> (try subst hb) <;> (try omega))
 | (with_reducible first | refine a_move (hr:=?_) | refine a_assign (hr:=?_) | refine a_load (hr:=?_) | refine a_fieldAddr (hr:=?_) | refine a_bin (hr:=?_) | refine a_lenS (hr:=?_) | refine a_lenR (hr:=?_) | refine a_pick (hr:=?_) | refine a_store (hr:=?_) | refine a_box (hr:=?_) | refine a_alloc (hr:=?_) | refine a_conv (hr:=?_) | refine a_bytesStr (hr:=?_) | refine a_strBytes (hr:=?_) | refine a_sameSl (hr:=?_) | refine a_idxArr (hr:=?_) | refine a_indexAddr (hr:=?_) | refine a_buildSlice (hr:=?_) | refine a_gT (hr:=?_) | refine a_gF (hr:=?_) | refine a_gU (hr:=?_))
 | (with_reducible refine a_gB (hT := ?_) (hF := ?_) <;> intro hb <;> (try simp at hb) <;> (try contradiction) <;> (try subst hb) <;> (try omega))
 | fail)
    refine wp_join ⟨envA [(1, .ptr 1 0), (4, .raw (.bool (lg2 || lN))), (5, .raw (.bool (ag2 || aN))), (6, .sl 1 (u8s c)), (10, .ptr 10 0), (128, .sl 4 (fs.map flowAV)), (129, .raw (.int .i64 fs.length)), (130, .raw (.int .i64 j))], hpL [(1, .box (.agg [.raw (.string nm), .sl 8 (ns.map nodeAV), .sl 4 (fs.map flowAV)])), (10, .box (flowAV ⟨fr, to, cd, el⟩))]⟩ ?_ ?_
    · clear hj q1 q2 q3 q4
      generalize (lg2 || lN) = lgg
      cases ag2 with
      | true =>
        rw [Bool.true_or]
        (with_reducible refine awp_regT (by kernel_rfl) ?_; intro K hK)
        repeat' (first
 | (with_reducible refine run_n ?_; with_reducible first | refine hK _ _ (by simp) ?_ | refine hK _ _ ?_; clear hK K)
 | (refine zzc ?_)
 | (with_reducible refine a_cond (ht := ?_) (hf := ?_) <;> intro hb <;> (try simp at hb) <;> (try contradiction) <;> (try subst hb) <;> (try omega))
 | (with_reducible first | refine a_move (hr:=?_) | refine a_assign (hr:=?_) | refine a_load (hr:=?_) | refine a_fieldAddr (hr:=?_) | refine a_bin (hr:=?_) | refine a_lenS (hr:=?_) | refine a_lenR (hr:=?_) | refine a_pick (hr:=?_) | refine a_store (hr:=?_) | refine a_box (hr:=?_) | refine a_alloc (hr:=?_) | refine a_conv (hr:=?_) | refine a_bytesStr (hr:=?_) | refine a_strBytes (hr:=?_) | refine a_sameSl (hr:=?_) | refine a_idxArr (hr:=?_) | refine a_indexAddr (hr:=?_) | refine a_buildSlice (hr:=?_) | refine a_gT (hr:=?_) | refine a_gF (hr:=?_) | refine a_gU (hr:=?_))
 | (with_reducible refine a_gB (hT := ?_) (hF := ?_) <;> intro hb <;> (try simp at hb) <;> (try contradiction) <;> (try subst hb) <;> (try omega))
 | fail)
        exact zzw
      | false =>
        rw [Bool.false_or, haN]
        by_cases c1 : fr < 0
        · rw [decide_eq_true (Or.inl c1)]
          simp only [Bool.true_or]
          (with_reducible refine awp_regT (by kernel_rfl) ?_; intro K hK)
          repeat' (first
 | (with_reducible refine run_n ?_; with_reducible first | refine hK _ _ (by simp) ?_ | refine hK _ _ ?_; clear hK K)
 | (refine zzc ?_)
 | (with_reducible refine a_cond (ht := ?_) (hf := ?_) <;> intro hb <;> (try simp at hb) <;> (try contradiction) <;> (try subst hb) <;> (try omega))
 | (with_reducible first | refine a_move (hr:=?_) | refine a_assign (hr:=?_) | refine a_load (hr:=?_) | refine a_fieldAddr (hr:=?_) | refine a_bin (hr:=?_) | refine a_lenS (hr:=?_) | refine a_lenR (hr:=?_) | refine a_pick (hr:=?_) | refine a_store (hr:=?_) | refine a_box (hr:=?_) | refine a_alloc (hr:=?_) | refine a_conv (hr:=?_) | refine a_bytesStr (hr:=?_) | refine a_strBytes (hr:=?_) | refine a_sameSl (hr:=?_) | refine a_idxArr (hr:=?_) | refine a_indexAddr (hr:=?_) | refine a_buildSlice (hr:=?_) | refine a_gT (hr:=?_) | refine a_gF (hr:=?_) | refine a_gU (hr:=?_))
 | (with_reducible refine a_gB (hT := ?_) (hF := ?_) <;> intro hb <;> (try simp at hb) <;> (try contradiction) <;> (try subst hb) <;> (try omega))
 | fail)
          exact zzw
        by_cases c2 : 254 < fr
        · rw [decide_eq_true (Or.inr c2)]
          simp only [Bool.true_or]
          (with_reducible refine awp_regT (by kernel_rfl) ?_; intro K hK)
          repeat' (first
 | (with_reducible refine run_n ?_; with_reducible first | refine hK _ _ (by simp) ?_ | refine hK _ _ ?_; clear hK K)
 | (refine zzc ?_)
 | (with_reducible refine a_cond (ht := ?_) (hf := ?_) <;> intro hb <;> (try simp at hb) <;> (try contradiction) <;> (try subst hb) <;> (try omega))
 | (with_reducible first | refine a_move (hr:=?_) | refine a_assign (hr:=?_) | refine a_load (hr:=?_) | refine a_fieldAddr (hr:=?_) | refine a_bin (hr:=?_) | refine a_lenS (hr:=?_) | refine a_lenR (hr:=?_) | refine a_pick (hr:=?_) | refine a_store (hr:=?_) | refine a_box (hr:=?_) | refine a_alloc (hr:=?_) | refine a_conv (hr:=?_) | refine a_bytesStr (hr:=?_) | refine a_strBytes (hr:=?_) | refine a_sameSl (hr:=?_) | refine a_idxArr (hr:=?_) | refine a_indexAddr (hr:=?_) | refine a_buildSlice (hr:=?_) | refine a_gT (hr:=?_) | refine a_gF (hr:=?_) | refine a_gU (hr:=?_))
 | (with_reducible refine a_gB (hT := ?_) (hF := ?_) <;> intro hb <;> (try simp at hb) <;> (try contradiction) <;> (try subst hb) <;> (try omega))
 | fail)
          exact zzw
        rw [decide_eq_false (show ¬ (fr < 0 ∨ 254 < fr) by omega), Bool.false_or]
        by_cases c5 : to < 0
        · rw [decide_eq_true (Or.inl c5)]
          (with_reducible refine awp_regT (by kernel_rfl) ?_; intro K hK)
          repeat' (first
 | (with_reducible refine run_n ?_; with_reducible first | refine hK _ _ (by simp) ?_ | refine hK _ _ ?_; clear hK K)
 | (refine zzc ?_)
 | (with_reducible refine a_cond (ht := ?_) (hf := ?_) <;> intro hb <;> (try simp at hb) <;> (try contradiction) <;> (try subst hb) <;> (try omega))
 | (with_reducible first | refine a_move (hr:=?_) | refine a_assign (hr:=?_) | refine a_load (hr:=?_) | refine a_fieldAddr (hr:=?_) | refine a_bin (hr:=?_) | refine a_lenS (hr:=?_) | refine a_lenR (hr:=?_) | refine a_pick (hr:=?_) | refine a_store (hr:=?_) | refine a_box (hr:=?_) | refine a_alloc (hr:=?_) | refine a_conv (hr:=?_) | refine a_bytesStr (hr:=?_) | refine a_strBytes (hr:=?_) | refine a_sameSl (hr:=?_) | refine a_idxArr (hr:=?_) | refine a_indexAddr (hr:=?_) | refine a_buildSlice (hr:=?_) | refine a_gT (hr:=?_) | refine a_gF (hr:=?_) | refine a_gU (hr:=?_))
 | (with_reducible refine a_gB (hT := ?_) (hF := ?_) <;> intro hb <;> (try simp at hb) <;> (try contradiction) <;> (try subst hb) <;> (try omega))
 | fail)
          exact zzw
        by_cases c6 : 254 < to
        · rw [decide_eq_true (Or.inr c6)]
          (with_reducible refine awp_regT (by kernel_rfl) ?_; intro K hK)
          repeat' (first
 | (with_reducible refine run_n ?_; with_reducible first | refine hK _ _ (by simp) ?_ | refine hK _ _ ?_; clear hK K)
 | (refine zzc ?_)
 | (with_reducible refine a_cond (ht := ?_) (hf := ?_) <;> intro hb <;> (try simp at hb) <;> (try contradiction) <;> (try subst hb) <;> (try omega))
 | (with_reducible first | refine a_move (hr:=?_) | refine a_assign (hr:=?_) | refine a_load (hr:=?_) | refine a_fieldAddr (hr:=?_) | refine a_bin (hr:=?_) | refine a_lenS (hr:=?_) | refine a_lenR (hr:=?_) | refine a_pick (hr:=?_) | refine a_store (hr:=?_) | refine a_box (hr:=?_) | refine a_alloc (hr:=?_) | refine a_conv (hr:=?_) | refine a_bytesStr (hr:=?_) | refine a_strBytes (hr:=?_) | refine a_sameSl (hr:=?_) | refine a_idxArr (hr:=?_) | refine a_indexAddr (hr:=?_) | refine a_buildSlice (hr:=?_) | refine a_gT (hr:=?_) | refine a_gF (hr:=?_) | refine a_gU (hr:=?_))
 | (with_reducible refine a_gB (hT := ?_) (hF := ?_) <;> intro hb <;> (try simp at hb) <;> (try contradiction) <;> (try subst hb) <;> (try omega))
 | fail)
          exact zzw
        rw [decide_eq_false (show ¬ (to < 0 ∨ 254 < to) by omega)]
        (with_reducible refine awp_regT (by kernel_rfl) ?_; intro K hK)
        repeat' (first
 | (with_reducible refine run_n ?_; with_reducible first | refine hK _ _ (by simp) ?_ | refine hK _ _ ?_; clear hK K)
 | (refine zzc ?_)
 | (with_reducible refine a_cond (ht := ?_) (hf := ?_) <;> intro hb <;> (try simp at hb) <;> (try contradiction) <;> (try subst hb) <;> (try omega))
 | (with_reducible first | refine a_move (hr:=?_) | refine a_assign (hr:=?_) | refine a_load (hr:=?_) | refine a_fieldAddr (hr:=?_) | refine a_bin (hr:=?_) | refine a_lenS (hr:=?_) | refine a_lenR (hr:=?_) | refine a_pick (hr:=?_) | refine a_store (hr:=?_) | refine a_box (hr:=?_) | refine a_alloc (hr:=?_) | refine a_conv (hr:=?_) | refine a_bytesStr (hr:=?_) | refine a_strBytes (hr:=?_) | refine a_sameSl (hr:=?_) | refine a_idxArr (hr:=?_) | refine a_indexAddr (hr:=?_) | refine a_buildSlice (hr:=?_) | refine a_gT (hr:=?_) | refine a_gF (hr:=?_) | refine a_gU (hr:=?_))
 | (with_reducible refine a_gB (hT := ?_) (hF := ?_) <;> intro hb <;> (try simp at hb) <;> (try contradiction) <;> (try subst hb) <;> (try omega))
 | fail)
        exact zzw
    generalize (lg2 || lN) = lgg at gn ⊢
    generalize (ag2 || aN) = agg at gn ⊢
    clear haN hAN
    repeat' (first
 | (with_reducible refine run_n ?_; with_reducible first | refine hK _ _ (by simp) ?_ | refine hK _ _ ?_; clear hK K)
 | (refine zzc ?_)
 | (with_reducible refine awp_regT (by kernel_rfl) ?_; intro K hK)
 | (with_reducible refine awp_regAM (id := 3) [(29, some 1), (32, some 1)] mixed (by kernel_rfl) (by kernel_rfl) ?_; intro K hK)
 | (with_reducible refine awp_regAM (id := 9) [(90, some 8), (94, some 8), (97, some 8), (101, some 8), (104, some 8), (107, some 8), (110, some 8), (114, some 8)] mixed (by kernel_rfl) (by kernel_rfl) ?_; intro K hK)
 | (with_reducible refine awp_regAM (id := 17) [(163, some 10), (166, some 10), (169, some 10), (172, some 10)] mixed (by kernel_rfl) (by kernel_rfl) ?_; intro K hK)
 | (with_reducible refine a_cond (ht := ?_) (hf := ?_) <;> intro hb <;> (try simp at hb) <;> (try contradiction) <;> (try subst hb) <;> (try omega))
 | (with_reducible first | refine a_move (hr:=?_) | refine a_assign (hr:=?_) | refine a_load (hr:=?_) | refine a_fieldAddr (hr:=?_) | refine a_bin (hr:=?_) | refine a_lenS (hr:=?_) | refine a_lenR (hr:=?_) | refine a_pick (hr:=?_) | refine a_store (hr:=?_) | refine a_box (hr:=?_) | refine a_alloc (hr:=?_) | refine a_conv (hr:=?_) | refine a_bytesStr (hr:=?_) | refine a_strBytes (hr:=?_) | refine a_sameSl (hr:=?_) | refine a_idxArr (hr:=?_) | refine a_indexAddr (hr:=?_) | refine a_buildSlice (hr:=?_) | refine a_callN (hcall := q1) (hr:=?_) | refine a_callN (hcall := q2) (hr:=?_) | refine a_callN (hcall := q3) (hr:=?_) | refine a_callN (hcall := q4) (hr:=?_) | refine a_callF (hcall := hj) (hr:=?_) | refine a_gT (hr:=?_) | refine a_gF (hr:=?_) | refine a_gU (hr:=?_))
 | (with_reducible refine a_gB (hT := ?_) (hF := ?_) <;> intro hb <;> (try simp at hb) <;> (try contradiction) <;> (try subst hb) <;> (try omega))
 | fail)
    exact ⟨(j + 1, _, lgg, agg), by simp only; omega, gn, zzw⟩
  have hi : j = fs.length := by omega
  have ge := g.eq
  have gl := g.lg
  have ga := g.ag
  rw [hi, List.take_length] at ge gl ga
  rw [← gl] at hLD
  rw [← ga] at hAD
  rw [← ge] at hRB
  subst hLD hAD hRB
  clear g ge gl ga hsf
  cases lg2 with
  | true =>
    rw [if_pos rfl] at hRP
    subst hRP
    repeat' (first
 | (with_reducible refine run_n ?_; with_reducible first | refine hK _ _ (by simp) ?_ | refine hK _ _ ?_; clear hK K)
 | (refine zzc ?_)
 | (with_reducible refine awp_regT (by kernel_rfl) ?_; intro K hK)
 | (with_reducible refine awp_regAM (id := 3) [(29, some 1), (32, some 1)] mixed (by kernel_rfl) (by kernel_rfl) ?_; intro K hK)
 | (with_reducible refine awp_regAM (id := 9) [(90, some 8), (94, some 8), (97, some 8), (101, some 8), (104, some 8), (107, some 8), (110, some 8), (114, some 8)] mixed (by kernel_rfl) (by kernel_rfl) ?_; intro K hK)
 | (with_reducible refine awp_regAM (id := 17) [(163, some 10), (166, some 10), (169, some 10), (172, some 10)] mixed (by kernel_rfl) (by kernel_rfl) ?_; intro K hK)
 | (with_reducible refine a_cond (ht := ?_) (hf := ?_) <;> intro hb <;> (try simp at hb) <;> (try contradiction) <;> (try subst hb) <;> (try omega))
 | (with_reducible first | refine a_move (hr:=?_) | refine a_assign (hr:=?_) | refine a_load (hr:=?_) | refine a_fieldAddr (hr:=?_) | refine a_bin (hr:=?_) | refine a_lenS (hr:=?_) | refine a_lenR (hr:=?_) | refine a_pick (hr:=?_) | refine a_store (hr:=?_) | refine a_box (hr:=?_) | refine a_alloc (hr:=?_) | refine a_conv (hr:=?_) | refine a_bytesStr (hr:=?_) | refine a_strBytes (hr:=?_) | refine a_sameSl (hr:=?_) | refine a_idxArr (hr:=?_) | refine a_indexAddr (hr:=?_) | refine a_buildSlice (hr:=?_) | refine a_gT (hr:=?_) | refine a_gF (hr:=?_) | refine a_gU (hr:=?_))
 | (with_reducible refine a_gB (hT := ?_) (hF := ?_) <;> intro hb <;> (try simp at hb) <;> (try contradiction) <;> (try subst hb) <;> (try omega))
 | fail)
    all_goals ((refine zzr hQ ?_))
    all_goals (exact zzd)
  | false =>
    rw [if_neg (by simp)] at hRP
    cases ag2 with
    | true =>
      rw [if_pos rfl] at hRP
      subst hRP
      repeat' (first
 | (with_reducible refine run_n ?_; with_reducible first | refine hK _ _ (by simp) ?_ | refine hK _ _ ?_; clear hK K)
 | (refine zzc ?_)
 | (with_reducible refine awp_regT (by kernel_rfl) ?_; intro K hK)
 | (with_reducible refine awp_regAM (id := 3) [(29, some 1), (32, some 1)] mixed (by kernel_rfl) (by kernel_rfl) ?_; intro K hK)
 | (with_reducible refine awp_regAM (id := 9) [(90, some 8), (94, some 8), (97, some 8), (101, some 8), (104, some 8), (107, some 8), (110, some 8), (114, some 8)] mixed (by kernel_rfl) (by kernel_rfl) ?_; intro K hK)
 | (with_reducible refine awp_regAM (id := 17) [(163, some 10), (166, some 10), (169, some 10), (172, some 10)] mixed (by kernel_rfl) (by kernel_rfl) ?_; intro K hK)
 | (with_reducible refine a_cond (ht := ?_) (hf := ?_) <;> intro hb <;> (try simp at hb) <;> (try contradiction) <;> (try subst hb) <;> (try omega))
 | (with_reducible first | refine a_move (hr:=?_) | refine a_assign (hr:=?_) | refine a_load (hr:=?_) | refine a_fieldAddr (hr:=?_) | refine a_bin (hr:=?_) | refine a_lenS (hr:=?_) | refine a_lenR (hr:=?_) | refine a_pick (hr:=?_) | refine a_store (hr:=?_) | refine a_box (hr:=?_) | refine a_alloc (hr:=?_) | refine a_conv (hr:=?_) | refine a_bytesStr (hr:=?_) | refine a_strBytes (hr:=?_) | refine a_sameSl (hr:=?_) | refine a_idxArr (hr:=?_) | refine a_indexAddr (hr:=?_) | refine a_buildSlice (hr:=?_) | refine a_gT (hr:=?_) | refine a_gF (hr:=?_) | refine a_gU (hr:=?_))
 | (with_reducible refine a_gB (hT := ?_) (hF := ?_) <;> intro hb <;> (try simp at hb) <;> (try contradiction) <;> (try subst hb) <;> (try omega))
 | fail)
      all_goals ((refine zzr hQ ?_))
      all_goals (exact zzd)
    | false =>
      rw [if_neg (by simp)] at hRP
      subst hRP
      repeat' (first
 | (with_reducible refine run_n ?_; with_reducible first | refine hK _ _ (by simp) ?_ | refine hK _ _ ?_; clear hK K)
 | (refine zzc ?_)
 | (with_reducible refine awp_regT (by kernel_rfl) ?_; intro K hK)
 | (with_reducible refine awp_regAM (id := 3) [(29, some 1), (32, some 1)] mixed (by kernel_rfl) (by kernel_rfl) ?_; intro K hK)
 | (with_reducible refine awp_regAM (id := 9) [(90, some 8), (94, some 8), (97, some 8), (101, some 8), (104, some 8), (107, some 8), (110, some 8), (114, some 8)] mixed (by kernel_rfl) (by kernel_rfl) ?_; intro K hK)
 | (with_reducible refine awp_regAM (id := 17) [(163, some 10), (166, some 10), (169, some 10), (172, some 10)] mixed (by kernel_rfl) (by kernel_rfl) ?_; intro K hK)
 | (with_reducible refine a_cond (ht := ?_) (hf := ?_) <;> intro hb <;> (try simp at hb) <;> (try contradiction) <;> (try subst hb) <;> (try omega))
 | (with_reducible first | refine a_move (hr:=?_) | refine a_assign (hr:=?_) | refine a_load (hr:=?_) | refine a_fieldAddr (hr:=?_) | refine a_bin (hr:=?_) | refine a_lenS (hr:=?_) | refine a_lenR (hr:=?_) | refine a_pick (hr:=?_) | refine a_store (hr:=?_) | refine a_box (hr:=?_) | refine a_alloc (hr:=?_) | refine a_conv (hr:=?_) | refine a_bytesStr (hr:=?_) | refine a_strBytes (hr:=?_) | refine a_sameSl (hr:=?_) | refine a_idxArr (hr:=?_) | refine a_indexAddr (hr:=?_) | refine a_buildSlice (hr:=?_) | refine a_gT (hr:=?_) | refine a_gF (hr:=?_) | refine a_gU (hr:=?_))
 | (with_reducible refine a_gB (hT := ?_) (hF := ?_) <;> intro hb <;> (try simp at hb) <;> (try contradiction) <;> (try subst hb) <;> (try omega))
 | fail)
      all_goals ((refine zzr hQ ?_))
      all_goals (exact zzd)
theorem c_r14Put (d : DefV) (h : SmD d) (h1 : d.ns.length ≤ 1000) (h2 : d.fs.length ≤ 1000) : CallD Try.prog 9 [defAV d] noHeap (.tup [bytAV (putD d).1, .raw (.int .i64 (putD d).2)]) noHeap := by
  have q := c_r14PutM d h h1 h2
  unfold endRP at q
  unfold putD
  have hm : muchD d = true ↔ (40 < d.ns.length ∨ 80 < d.fs.length) ∨ longD d = true := by
    unfold muchD longD
    simp only [Bool.or_eq_true, decide_eq_true_eq]
    constructor
    · rintro ((((a | a) | a) | a) | a)
      · exact .inr (.inl (.inl a))
      · exact .inl (.inl a)
      · exact .inl (.inr a)
      · exact .inr (.inl (.inr a))
      · exact .inr (.inr a)
    · rintro ((a | a) | ((a | a) | a))
      · exact .inl (.inl (.inl (.inr a)))
      · exact .inl (.inl (.inr a))
      · exact .inl (.inl (.inl (.inl a)))
      · exact .inl (.inr a)
      · exact .inr a
  by_cases c : muchD d = true
  · rw [if_pos c] at q
    rw [if_pos (hm.1 c)]
    exact q
  · rw [if_neg c] at q
    rw [if_neg fun x => c (hm.2 x)]
    by_cases c2 : argD d = true
    · rw [if_pos c2] at q
      rw [if_pos c2]
      exact q
    · rw [if_neg c2, endR_ok (by simpa using c2) h1 h2] at q
      rw [if_neg c2, bytAV_def]
      exact q
end Go.Proofs.Ytejeemhenoobjaa.Asl

namespace Go.Proofs.Ytejeemhenoobjaa.Asl
open Go Go.RowKit
set_option linter.unusedVariables false
set_option linter.unusedSimpArgs false
set_option maxRecDepth 100000
set_option maxHeartbeats 8000000
def fewN (n : NodeV) : Bool := decide (n.nm.size ≤ 200 ∧ n.tx.size ≤ 300 ∧ n.ky.size ≤ 300 ∧ n.to.size ≤ 200)
def fewF (f : FlowV) : Bool := decide (f.cd.size ≤ 300)
def fewD (d : DefV) : Bool := d.ns.all fewN && (d.fs.all fewF && decide (d.nm.size ≤ 200 ∧ d.ns.length ≤ 60 ∧ d.fs.length ≤ 120))
theorem c_Few13 (d : DefV) (h1 : d.ns.length < 9223372036854775808) (h2 : d.fs.length < 9223372036854775808) : CallD Try.prog 7 [defAV d] noHeap (.raw (.bool (fewD d))) noHeap := by
  obtain ⟨nm, ns, fs⟩ := d
  simp only at h1 h2
  obtain ⟨R, hR⟩ : ∃ R, fewD ⟨nm, ns, fs⟩ = R := ⟨_, rfl⟩
  rw [hR]
  simp only [fewD] at hR
  simp only [defAV]
  refine zzg (nt := 65) (rs := [.tmp 2]) Try.func7 ?_; intro Q hQ hW
  repeat' (first
 | (with_reducible refine run_n ?_; with_reducible first | refine hK _ _ (by simp) ?_ | refine hK _ _ ?_; clear hK K)
 | (refine zzc ?_)
 | (with_reducible refine awp_regT (by kernel_rfl) ?_; intro K hK)
 | (with_reducible refine a_cond (ht := ?_) (hf := ?_) <;> intro hb <;> (try simp at hb) <;> (try contradiction) <;> (try subst hb) <;> (try omega))
 | (with_reducible first | refine a_move (hr:=?_) | refine a_assign (hr:=?_) | refine a_load (hr:=?_) | refine a_fieldAddr (hr:=?_) | refine a_bin (hr:=?_) | refine a_lenS (hr:=?_) | refine a_lenR (hr:=?_) | refine a_pick (hr:=?_) | refine a_store (hr:=?_) | refine a_box (hr:=?_) | refine a_alloc (hr:=?_) | refine a_idxArr (hr:=?_) | refine a_indexAddr (hr:=?_) | refine a_gT (hr:=?_) | refine a_gF (hr:=?_) | refine a_gU (hr:=?_))
 | (with_reducible refine a_gB (hT := ?_) (hF := ?_) <;> intro hb <;> (try simp at hb) <;> (try contradiction) <;> (try subst hb) <;> (try omega))
 | fail)
  refine awp_inv (α := Nat) (fun i => [(1, .ptr 1 0), (8, .sl 8 (ns.map nodeAV)), (9, .raw (.int .i64 ns.length)), (10, .raw (.int .i64 i))]) (fun _ => hpL [(1, .box (.agg [.raw (.string nm), .sl 8 (ns.map nodeAV), .sl 4 (fs.map flowAV)]))]) (fun i => i ≤ ns.length ∧ ((ns.drop i).all fewN && (fs.all fewF && decide (nm.size ≤ 200 ∧ ns.length ≤ 60 ∧ fs.length ≤ 120))) = R) (fun i => ns.length - i) 0 ⟨by simp, by simpa using hR⟩ (zzw) ?_
  clear hR
  rintro i ⟨g1, g2⟩
  rcases Nat.lt_or_ge i ns.length with hlt | hge
  · have hx := List.getElem?_eq_getElem hlt
    rw [List.drop_eq_getElem_cons hlt] at g2
    generalize ns[i] = y at hx g2
    obtain ⟨ykd, ynm, yup, ytx, yky, yto, yat, yst⟩ := y
    simp only [List.all_cons, fewN] at g2
    by_cases hh : ynm.size ≤ 200 ∧ ytx.size ≤ 300 ∧ yky.size ≤ 300 ∧ yto.size ≤ 200
    · rw [decide_eq_true hh, Bool.true_and] at g2
      obtain ⟨e1, e2, e3, e4⟩ := hh
      repeat' (first
 | (with_reducible refine run_n ?_; with_reducible first | refine hK _ _ (by simp) ?_ | refine hK _ _ ?_; clear hK K)
 | (refine zzc ?_)
 | (with_reducible refine awp_regT (by kernel_rfl) ?_; intro K hK)
 | (with_reducible refine a_cond (ht := ?_) (hf := ?_) <;> intro hb <;> (try simp at hb) <;> (try contradiction) <;> (try subst hb) <;> (try omega))
 | (with_reducible first | refine a_move (hr:=?_) | refine a_assign (hr:=?_) | refine a_load (hr:=?_) | refine a_fieldAddr (hr:=?_) | refine a_bin (hr:=?_) | refine a_lenS (hr:=?_) | refine a_lenR (hr:=?_) | refine a_pick (hr:=?_) | refine a_store (hr:=?_) | refine a_box (hr:=?_) | refine a_alloc (hr:=?_) | refine a_idxArr (hr:=?_) | refine a_indexAddr (hr:=?_) | refine a_gT (hr:=?_) | refine a_gF (hr:=?_) | refine a_gU (hr:=?_))
 | (with_reducible refine a_gB (hT := ?_) (hF := ?_) <;> intro hb <;> (try simp at hb) <;> (try contradiction) <;> (try subst hb) <;> (try omega))
 | fail)
      exact ⟨i + 1, by omega, ⟨by omega, g2⟩, zzw⟩
    · rw [decide_eq_false hh] at g2
      simp only [Bool.false_and] at g2
      subst g2
      have hh2 : 200 < ynm.size ∨ (ynm.size ≤ 200 ∧ 300 < ytx.size) ∨ (ynm.size ≤ 200 ∧ ytx.size ≤ 300 ∧ 300 < yky.size) ∨ (ynm.size ≤ 200 ∧ ytx.size ≤ 300 ∧ yky.size ≤ 300 ∧ 200 < yto.size) := by omega
      clear hh
      rcases hh2 with e1 | ⟨e1, e2⟩ | ⟨e1, e2, e3⟩ | ⟨e1, e2, e3, e4⟩
      all_goals
        repeat' (first
 | (with_reducible refine run_n ?_; with_reducible first | refine hK _ _ (by simp) ?_ | refine hK _ _ ?_; clear hK K)
 | (refine zzc ?_)
 | (with_reducible refine awp_regT (by kernel_rfl) ?_; intro K hK)
 | (with_reducible refine a_cond (ht := ?_) (hf := ?_) <;> intro hb <;> (try simp at hb) <;> (try contradiction) <;> (try subst hb) <;> (try omega))
 | (with_reducible first | refine a_move (hr:=?_) | refine a_assign (hr:=?_) | refine a_load (hr:=?_) | refine a_fieldAddr (hr:=?_) | refine a_bin (hr:=?_) | refine a_lenS (hr:=?_) | refine a_lenR (hr:=?_) | refine a_pick (hr:=?_) | refine a_store (hr:=?_) | refine a_box (hr:=?_) | refine a_alloc (hr:=?_) | refine a_idxArr (hr:=?_) | refine a_indexAddr (hr:=?_) | refine a_gT (hr:=?_) | refine a_gF (hr:=?_) | refine a_gU (hr:=?_))
 | (with_reducible refine a_gB (hT := ?_) (hF := ?_) <;> intro hb <;> (try simp at hb) <;> (try contradiction) <;> (try subst hb) <;> (try omega))
 | fail)
        (refine zzr hQ ?_)
        exact zzd
  · have : i = ns.length := by omega
    subst this
    rw [List.drop_length] at g2
    simp only [List.all_nil, Bool.true_and] at g2
    repeat' (first
 | (with_reducible refine run_n ?_; with_reducible first | refine hK _ _ (by simp) ?_ | refine hK _ _ ?_; clear hK K)
 | (refine zzc ?_)
 | (with_reducible refine awp_regT (by kernel_rfl) ?_; intro K hK)
 | (with_reducible refine a_cond (ht := ?_) (hf := ?_) <;> intro hb <;> (try simp at hb) <;> (try contradiction) <;> (try subst hb) <;> (try omega))
 | (with_reducible first | refine a_move (hr:=?_) | refine a_assign (hr:=?_) | refine a_load (hr:=?_) | refine a_fieldAddr (hr:=?_) | refine a_bin (hr:=?_) | refine a_lenS (hr:=?_) | refine a_lenR (hr:=?_) | refine a_pick (hr:=?_) | refine a_store (hr:=?_) | refine a_box (hr:=?_) | refine a_alloc (hr:=?_) | refine a_idxArr (hr:=?_) | refine a_indexAddr (hr:=?_) | refine a_gT (hr:=?_) | refine a_gF (hr:=?_) | refine a_gU (hr:=?_))
 | (with_reducible refine a_gB (hT := ?_) (hF := ?_) <;> intro hb <;> (try simp at hb) <;> (try contradiction) <;> (try subst hb) <;> (try omega))
 | fail)
    refine awp_inv (α := Nat) (fun i => [(1, .ptr 1 0), (38, .sl 4 (fs.map flowAV)), (39, .raw (.int .i64 fs.length)), (40, .raw (.int .i64 i))]) (fun _ => hpL [(1, .box (.agg [.raw (.string nm), .sl 8 (ns.map nodeAV), .sl 4 (fs.map flowAV)]))]) (fun i => i ≤ fs.length ∧ ((fs.drop i).all fewF && decide (nm.size ≤ 200 ∧ ns.length ≤ 60 ∧ fs.length ≤ 120)) = R) (fun i => fs.length - i) 0 ⟨by simp, by simpa using g2⟩ (zzw) ?_
    clear g2 g1 hge
    rintro j ⟨g1, g2⟩
    rcases Nat.lt_or_ge j fs.length with hlt | hge
    · have hx := List.getElem?_eq_getElem hlt
      rw [List.drop_eq_getElem_cons hlt] at g2
      generalize fs[j] = y at hx g2
      obtain ⟨yf, yt, yc, ye⟩ := y
      simp only [List.all_cons, fewF] at g2
      by_cases hh : yc.size ≤ 300
      · rw [decide_eq_true hh, Bool.true_and] at g2
        repeat' (first
 | (with_reducible refine run_n ?_; with_reducible first | refine hK _ _ (by simp) ?_ | refine hK _ _ ?_; clear hK K)
 | (refine zzc ?_)
 | (with_reducible refine awp_regT (by kernel_rfl) ?_; intro K hK)
 | (with_reducible refine a_cond (ht := ?_) (hf := ?_) <;> intro hb <;> (try simp at hb) <;> (try contradiction) <;> (try subst hb) <;> (try omega))
 | (with_reducible first | refine a_move (hr:=?_) | refine a_assign (hr:=?_) | refine a_load (hr:=?_) | refine a_fieldAddr (hr:=?_) | refine a_bin (hr:=?_) | refine a_lenS (hr:=?_) | refine a_lenR (hr:=?_) | refine a_pick (hr:=?_) | refine a_store (hr:=?_) | refine a_box (hr:=?_) | refine a_alloc (hr:=?_) | refine a_idxArr (hr:=?_) | refine a_indexAddr (hr:=?_) | refine a_gT (hr:=?_) | refine a_gF (hr:=?_) | refine a_gU (hr:=?_))
 | (with_reducible refine a_gB (hT := ?_) (hF := ?_) <;> intro hb <;> (try simp at hb) <;> (try contradiction) <;> (try subst hb) <;> (try omega))
 | fail)
        exact ⟨j + 1, by omega, ⟨by omega, g2⟩, zzw⟩
      · rw [decide_eq_false hh] at g2
        simp only [Bool.false_and] at g2
        subst g2
        repeat' (first
 | (with_reducible refine run_n ?_; with_reducible first | refine hK _ _ (by simp) ?_ | refine hK _ _ ?_; clear hK K)
 | (refine zzc ?_)
 | (with_reducible refine awp_regT (by kernel_rfl) ?_; intro K hK)
 | (with_reducible refine a_cond (ht := ?_) (hf := ?_) <;> intro hb <;> (try simp at hb) <;> (try contradiction) <;> (try subst hb) <;> (try omega))
 | (with_reducible first | refine a_move (hr:=?_) | refine a_assign (hr:=?_) | refine a_load (hr:=?_) | refine a_fieldAddr (hr:=?_) | refine a_bin (hr:=?_) | refine a_lenS (hr:=?_) | refine a_lenR (hr:=?_) | refine a_pick (hr:=?_) | refine a_store (hr:=?_) | refine a_box (hr:=?_) | refine a_alloc (hr:=?_) | refine a_idxArr (hr:=?_) | refine a_indexAddr (hr:=?_) | refine a_gT (hr:=?_) | refine a_gF (hr:=?_) | refine a_gU (hr:=?_))
 | (with_reducible refine a_gB (hT := ?_) (hF := ?_) <;> intro hb <;> (try simp at hb) <;> (try contradiction) <;> (try subst hb) <;> (try omega))
 | fail)
        (refine zzr hQ ?_)
        exact zzd
    · have : j = fs.length := by omega
      subst this
      rw [List.drop_length] at g2
      simp only [List.all_nil, Bool.true_and] at g2
      by_cases hh : nm.size ≤ 200 ∧ ns.length ≤ 60 ∧ fs.length ≤ 120
      · rw [decide_eq_true hh] at g2
        subst g2
        obtain ⟨e1, e2, e3⟩ := hh
        repeat' (first
 | (with_reducible refine run_n ?_; with_reducible first | refine hK _ _ (by simp) ?_ | refine hK _ _ ?_; clear hK K)
 | (refine zzc ?_)
 | (with_reducible refine awp_regT (by kernel_rfl) ?_; intro K hK)
 | (with_reducible refine a_cond (ht := ?_) (hf := ?_) <;> intro hb <;> (try simp at hb) <;> (try contradiction) <;> (try subst hb) <;> (try omega))
 | (with_reducible first | refine a_move (hr:=?_) | refine a_assign (hr:=?_) | refine a_load (hr:=?_) | refine a_fieldAddr (hr:=?_) | refine a_bin (hr:=?_) | refine a_lenS (hr:=?_) | refine a_lenR (hr:=?_) | refine a_pick (hr:=?_) | refine a_store (hr:=?_) | refine a_box (hr:=?_) | refine a_alloc (hr:=?_) | refine a_idxArr (hr:=?_) | refine a_indexAddr (hr:=?_) | refine a_gT (hr:=?_) | refine a_gF (hr:=?_) | refine a_gU (hr:=?_))
 | (with_reducible refine a_gB (hT := ?_) (hF := ?_) <;> intro hb <;> (try simp at hb) <;> (try contradiction) <;> (try subst hb) <;> (try omega))
 | fail)
        (refine zzr hQ ?_)
        first | exact zzd | (rw [show decide ((fs.length : Int) ≤ 120) = true from decide_eq_true (by omega)]; exact zzd) | (rw [show decide ((fs.length : Int) ≤ 120) = false from decide_eq_false (by omega)]; exact zzd)
      · rw [decide_eq_false hh] at g2
        subst g2
        have hh2 : 200 < nm.size ∨ (nm.size ≤ 200 ∧ 60 < ns.length) ∨ (nm.size ≤ 200 ∧ ns.length ≤ 60 ∧ 120 < fs.length) := by omega
        clear hh
        rcases hh2 with e1 | ⟨e1, e2⟩ | ⟨e1, e2, e3⟩
        all_goals
          repeat' (first
 | (with_reducible refine run_n ?_; with_reducible first | refine hK _ _ (by simp) ?_ | refine hK _ _ ?_; clear hK K)
 | (refine zzc ?_)
 | (with_reducible refine awp_regT (by kernel_rfl) ?_; intro K hK)
 | (with_reducible refine a_cond (ht := ?_) (hf := ?_) <;> intro hb <;> (try simp at hb) <;> (try contradiction) <;> (try subst hb) <;> (try omega))
 | (with_reducible first | refine a_move (hr:=?_) | refine a_assign (hr:=?_) | refine a_load (hr:=?_) | refine a_fieldAddr (hr:=?_) | refine a_bin (hr:=?_) | refine a_lenS (hr:=?_) | refine a_lenR (hr:=?_) | refine a_pick (hr:=?_) | refine a_store (hr:=?_) | refine a_box (hr:=?_) | refine a_alloc (hr:=?_) | refine a_idxArr (hr:=?_) | refine a_indexAddr (hr:=?_) | refine a_gT (hr:=?_) | refine a_gF (hr:=?_) | refine a_gU (hr:=?_))
 | (with_reducible refine a_gB (hT := ?_) (hF := ?_) <;> intro hb <;> (try simp at hb) <;> (try contradiction) <;> (try subst hb) <;> (try omega))
 | fail)
          (refine zzr hQ ?_)
          first | exact zzd | (rw [show decide ((fs.length : Int) ≤ 120) = true from decide_eq_true (by omega)]; exact zzd) | (rw [show decide ((fs.length : Int) ≤ 120) = false from decide_eq_false (by omega)]; exact zzd)
theorem c_r13Same (a b : DefV) (ha : a.ns.length < 9223372036854775808) (hb : b.ns.length < 9223372036854775808) (ha' : a.fs.length < 9223372036854775808) (hb' : b.fs.length < 9223372036854775808) : CallD Try.prog 12 [defAV a, defAV b] noHeap (.raw (.bool (decide (a = b)))) noHeap := by
  obtain ⟨am, an, af⟩ := a
  obtain ⟨bm, bn, bf⟩ := b
  simp only at ha hb ha' hb'
  obtain ⟨R, hR⟩ : ∃ R, decide ((⟨am, an, af⟩ : DefV) = ⟨bm, bn, bf⟩) = R := ⟨_, rfl⟩
  rw [hR]
  simp only [DefV.mk.injEq] at hR
  simp only [defAV]
  by_cases hh : am = bm ∧ an.length = bn.length ∧ af.length = bf.length
  · obtain ⟨e1, e2, e3⟩ := hh
    subst e1
    have hR : decide (an = bn ∧ af = bf) = R := by rw [← hR]; simp
    have e2' : (an.length : Int) = bn.length := by omega
    have e3' : (af.length : Int) = bf.length := by omega
    refine zzg (nt := 66) (rs := [.tmp 4]) Try.func12 ?_; intro Q hQ hW
    repeat' (first
 | (with_reducible refine run_n ?_; with_reducible first | refine hK _ _ (by simp) ?_ | refine hK _ _ ?_; clear hK K)
 | (refine zzc ?_)
 | (with_reducible refine awp_regT (by kernel_rfl) ?_; intro K hK)
 | (with_reducible refine awp_regAM (id := 6) [] mixed (by kernel_rfl) (by kernel_rfl) ?_; intro K hK)
 | (with_reducible refine awp_regAM (id := 12) [] mixed (by kernel_rfl) (by kernel_rfl) ?_; intro K hK)
 | (with_reducible refine a_cond (ht := ?_) (hf := ?_) <;> intro hb <;> (try simp at hb) <;> (try contradiction) <;> (try subst hb) <;> (try omega))
 | (with_reducible first | refine a_move (hr:=?_) | refine a_assign (hr:=?_) | refine a_load (hr:=?_) | refine a_fieldAddr (hr:=?_) | refine a_bin (hr:=?_) | refine a_lenS (hr:=?_) | refine a_lenR (hr:=?_) | refine a_pick (hr:=?_) | refine a_box (hr:=?_) | refine a_neB (hr:=?_) | refine a_idxArr (hr:=?_) | refine a_neS (hr:=?_) | refine a_indexAddr (hr:=?_) | refine a_gT (hr:=?_) | refine a_gF (hr:=?_) | refine a_gU (hr:=?_))
 | (with_reducible refine a_gB (hT := ?_) (hF := ?_) <;> intro hb <;> (try simp at hb) <;> (try contradiction) <;> (try subst hb) <;> (try omega))
 | fail)
    refine awp_inv (α := Nat) (fun i => [(2, .ptr 2 0), (3, .ptr 3 0), (32, .raw (.int .i64 an.length)), (33, .raw (.int .i64 i))]) (fun _ => hpL [(2, .box (.agg [.raw (.string am), .sl 8 (an.map nodeAV), .sl 4 (af.map flowAV)])), (3, .box (.agg [.raw (.string am), .sl 8 (bn.map nodeAV), .sl 4 (bf.map flowAV)]))]) (fun i => i ≤ an.length ∧ an.take i = bn.take i) (fun i => an.length - i) 0 ⟨by simp, by simp⟩ (zzw) ?_
    rintro i ⟨g1, g2⟩
    rcases Nat.lt_or_ge i an.length with hlt | hge
    · have hx := List.getElem?_eq_getElem hlt
      have hx2 := List.getElem?_eq_getElem (show i < bn.length by omega)
      have f1 := List.take_succ_eq_append_getElem hlt
      have f2 := List.take_succ_eq_append_getElem (show i < bn.length by omega)
      generalize an[i] = y at hx f1
      generalize bn[i]'(by omega) = z at hx2 f2
      by_cases he : y = z
      · subst he
        obtain ⟨ykd, ynm, yup, ytx, yky, yto, yat, yst⟩ := y
        repeat' (first
 | (with_reducible refine run_n ?_; with_reducible first | refine hK _ _ (by simp) ?_ | refine hK _ _ ?_; clear hK K)
 | (refine zzc ?_)
 | (with_reducible refine awp_regT (by kernel_rfl) ?_; intro K hK)
 | (with_reducible refine awp_regAM (id := 6) [] mixed (by kernel_rfl) (by kernel_rfl) ?_; intro K hK)
 | (with_reducible refine awp_regAM (id := 12) [] mixed (by kernel_rfl) (by kernel_rfl) ?_; intro K hK)
 | (with_reducible refine a_cond (ht := ?_) (hf := ?_) <;> intro hb <;> (try simp at hb) <;> (try contradiction) <;> (try subst hb) <;> (try omega))
 | (with_reducible first | refine a_move (hr:=?_) | refine a_assign (hr:=?_) | refine a_load (hr:=?_) | refine a_fieldAddr (hr:=?_) | refine a_bin (hr:=?_) | refine a_lenS (hr:=?_) | refine a_lenR (hr:=?_) | refine a_pick (hr:=?_) | refine a_box (hr:=?_) | refine a_neB (hr:=?_) | refine a_idxArr (hr:=?_) | refine a_neS (hr:=?_) | refine a_indexAddr (hr:=?_) | refine a_gT (hr:=?_) | refine a_gF (hr:=?_) | refine a_gU (hr:=?_))
 | (with_reducible refine a_gB (hT := ?_) (hF := ?_) <;> intro hb <;> (try simp at hb) <;> (try contradiction) <;> (try subst hb) <;> (try omega))
 | fail)
        exact ⟨i + 1, by omega, ⟨by omega, by rw [f1, f2, g2]⟩, zzw⟩
      · have hne : ¬ (an = bn ∧ af = bf) := by
          rintro ⟨e, _⟩; subst e; rw [hx] at hx2; exact he (Option.some.inj hx2)
        rw [decide_eq_false hne] at hR
        subst hR
        obtain ⟨ykd, ynm, yup, ytx, yky, yto, yat, yst⟩ := y
        obtain ⟨zkd, znm, zup, ztx, zky, zto, zat, zst⟩ := z
        have hne2 : (ykd = zkd ∧ ynm = znm ∧ yup = zup ∧ ytx = ztx ∧ yky = zky ∧ yto = zto ∧ yat = zat ∧ yst = zst) → False := fun ⟨h1, h2, h3, h4, h5, h6, h7, h8⟩ => he (by rw [h1, h2, h3, h4, h5, h6, h7, h8])
        clear hne he f1 f2 g2
        repeat' (first
 | (with_reducible refine run_n ?_; with_reducible first | refine hK _ _ (by simp) ?_ | refine hK _ _ ?_; clear hK K)
 | (refine zzc ?_)
 | (with_reducible refine awp_regT (by kernel_rfl) ?_; intro K hK)
 | (with_reducible refine awp_regAM (id := 6) [] mixed (by kernel_rfl) (by kernel_rfl) ?_; intro K hK)
 | (with_reducible refine awp_regAM (id := 12) [] mixed (by kernel_rfl) (by kernel_rfl) ?_; intro K hK)
 | (with_reducible refine a_cond (ht := ?_) (hf := ?_) <;> intro hb <;> (try simp at hb) <;> (try contradiction) <;> (try subst hb) <;> (try omega))
 | (with_reducible first | refine a_move (hr:=?_) | refine a_assign (hr:=?_) | refine a_load (hr:=?_) | refine a_fieldAddr (hr:=?_) | refine a_bin (hr:=?_) | refine a_lenS (hr:=?_) | refine a_lenR (hr:=?_) | refine a_pick (hr:=?_) | refine a_box (hr:=?_) | refine a_neB (hr:=?_) | refine a_idxArr (hr:=?_) | refine a_neS (hr:=?_) | refine a_indexAddr (hr:=?_) | refine a_gT (hr:=?_) | refine a_gF (hr:=?_) | refine a_gU (hr:=?_))
 | (with_reducible refine a_gB (hT := ?_) (hF := ?_) <;> intro hb <;> (try simp at hb) <;> (try contradiction) <;> (try subst hb) <;> (try omega))
 | fail)
        all_goals (try (refine zzr hQ ?_))
        all_goals (first | exact zzd | (exfalso; simp_all))
    · have : i = an.length := by omega
      subst this
      rw [List.take_length, e2, List.take_length] at g2
      subst g2
      clear g1 hge e2 e2'
      repeat' (first
 | (with_reducible refine run_n ?_; with_reducible first | refine hK _ _ (by simp) ?_ | refine hK _ _ ?_; clear hK K)
 | (refine zzc ?_)
 | (with_reducible refine awp_regT (by kernel_rfl) ?_; intro K hK)
 | (with_reducible refine awp_regAM (id := 6) [] mixed (by kernel_rfl) (by kernel_rfl) ?_; intro K hK)
 | (with_reducible refine awp_regAM (id := 12) [] mixed (by kernel_rfl) (by kernel_rfl) ?_; intro K hK)
 | (with_reducible refine a_cond (ht := ?_) (hf := ?_) <;> intro hb <;> (try simp at hb) <;> (try contradiction) <;> (try subst hb) <;> (try omega))
 | (with_reducible first | refine a_move (hr:=?_) | refine a_assign (hr:=?_) | refine a_load (hr:=?_) | refine a_fieldAddr (hr:=?_) | refine a_bin (hr:=?_) | refine a_lenS (hr:=?_) | refine a_lenR (hr:=?_) | refine a_pick (hr:=?_) | refine a_box (hr:=?_) | refine a_neB (hr:=?_) | refine a_idxArr (hr:=?_) | refine a_neS (hr:=?_) | refine a_indexAddr (hr:=?_) | refine a_gT (hr:=?_) | refine a_gF (hr:=?_) | refine a_gU (hr:=?_))
 | (with_reducible refine a_gB (hT := ?_) (hF := ?_) <;> intro hb <;> (try simp at hb) <;> (try contradiction) <;> (try subst hb) <;> (try omega))
 | fail)
      refine awp_inv (α := Nat) (fun i => [(2, .ptr 2 0), (3, .ptr 3 0), (50, .raw (.int .i64 af.length)), (51, .raw (.int .i64 i))]) (fun _ => hpL [(2, .box (.agg [.raw (.string am), .sl 8 (an.map nodeAV), .sl 4 (af.map flowAV)])), (3, .box (.agg [.raw (.string am), .sl 8 (an.map nodeAV), .sl 4 (bf.map flowAV)]))]) (fun i => i ≤ af.length ∧ af.take i = bf.take i) (fun i => af.length - i) 0 ⟨by simp, by simp⟩ (zzw) ?_
      rintro j ⟨g1, g2⟩
      rcases Nat.lt_or_ge j af.length with hlt | hge
      · have hx := List.getElem?_eq_getElem hlt
        have hx2 := List.getElem?_eq_getElem (show j < bf.length by omega)
        have f1 := List.take_succ_eq_append_getElem hlt
        have f2 := List.take_succ_eq_append_getElem (show j < bf.length by omega)
        generalize af[j] = y at hx f1
        generalize bf[j]'(by omega) = z at hx2 f2
        by_cases he : y = z
        · subst he
          obtain ⟨yf, yt, yc, ye⟩ := y
          repeat' (first
 | (with_reducible refine run_n ?_; with_reducible first | refine hK _ _ (by simp) ?_ | refine hK _ _ ?_; clear hK K)
 | (refine zzc ?_)
 | (with_reducible refine awp_regT (by kernel_rfl) ?_; intro K hK)
 | (with_reducible refine awp_regAM (id := 6) [] mixed (by kernel_rfl) (by kernel_rfl) ?_; intro K hK)
 | (with_reducible refine awp_regAM (id := 12) [] mixed (by kernel_rfl) (by kernel_rfl) ?_; intro K hK)
 | (with_reducible refine a_cond (ht := ?_) (hf := ?_) <;> intro hb <;> (try simp at hb) <;> (try contradiction) <;> (try subst hb) <;> (try omega))
 | (with_reducible first | refine a_move (hr:=?_) | refine a_assign (hr:=?_) | refine a_load (hr:=?_) | refine a_fieldAddr (hr:=?_) | refine a_bin (hr:=?_) | refine a_lenS (hr:=?_) | refine a_lenR (hr:=?_) | refine a_pick (hr:=?_) | refine a_box (hr:=?_) | refine a_neB (hr:=?_) | refine a_idxArr (hr:=?_) | refine a_neS (hr:=?_) | refine a_indexAddr (hr:=?_) | refine a_gT (hr:=?_) | refine a_gF (hr:=?_) | refine a_gU (hr:=?_))
 | (with_reducible refine a_gB (hT := ?_) (hF := ?_) <;> intro hb <;> (try simp at hb) <;> (try contradiction) <;> (try subst hb) <;> (try omega))
 | fail)
          exact ⟨j + 1, by omega, ⟨by omega, by rw [f1, f2, g2]⟩, zzw⟩
        · have hne : ¬ (an = an ∧ af = bf) := by
            rintro ⟨_, e⟩; subst e; rw [hx] at hx2; exact he (Option.some.inj hx2)
          rw [decide_eq_false hne] at hR
          subst hR
          obtain ⟨yf, yt, yc, ye⟩ := y
          obtain ⟨zf, zt, zc, ze⟩ := z
          have hne2 : (yf = zf ∧ yt = zt ∧ yc = zc ∧ ye = ze) → False := fun ⟨h1, h2, h3, h4⟩ => he (by rw [h1, h2, h3, h4])
          clear hne he f1 f2 g2
          repeat' (first
 | (with_reducible refine run_n ?_; with_reducible first | refine hK _ _ (by simp) ?_ | refine hK _ _ ?_; clear hK K)
 | (refine zzc ?_)
 | (with_reducible refine awp_regT (by kernel_rfl) ?_; intro K hK)
 | (with_reducible refine awp_regAM (id := 6) [] mixed (by kernel_rfl) (by kernel_rfl) ?_; intro K hK)
 | (with_reducible refine awp_regAM (id := 12) [] mixed (by kernel_rfl) (by kernel_rfl) ?_; intro K hK)
 | (with_reducible refine a_cond (ht := ?_) (hf := ?_) <;> intro hb <;> (try simp at hb) <;> (try contradiction) <;> (try subst hb) <;> (try omega))
 | (with_reducible first | refine a_move (hr:=?_) | refine a_assign (hr:=?_) | refine a_load (hr:=?_) | refine a_fieldAddr (hr:=?_) | refine a_bin (hr:=?_) | refine a_lenS (hr:=?_) | refine a_lenR (hr:=?_) | refine a_pick (hr:=?_) | refine a_box (hr:=?_) | refine a_neB (hr:=?_) | refine a_idxArr (hr:=?_) | refine a_neS (hr:=?_) | refine a_indexAddr (hr:=?_) | refine a_gT (hr:=?_) | refine a_gF (hr:=?_) | refine a_gU (hr:=?_))
 | (with_reducible refine a_gB (hT := ?_) (hF := ?_) <;> intro hb <;> (try simp at hb) <;> (try contradiction) <;> (try subst hb) <;> (try omega))
 | fail)
          all_goals (try (refine zzr hQ ?_))
          all_goals (first | exact zzd | (exfalso; simp_all))
      · have : j = af.length := by omega
        subst this
        rw [List.take_length, e3, List.take_length] at g2
        subst g2
        rw [decide_eq_true ⟨rfl, rfl⟩] at hR
        subst hR
        repeat' (first
 | (with_reducible refine run_n ?_; with_reducible first | refine hK _ _ (by simp) ?_ | refine hK _ _ ?_; clear hK K)
 | (refine zzc ?_)
 | (with_reducible refine awp_regT (by kernel_rfl) ?_; intro K hK)
 | (with_reducible refine awp_regAM (id := 6) [] mixed (by kernel_rfl) (by kernel_rfl) ?_; intro K hK)
 | (with_reducible refine awp_regAM (id := 12) [] mixed (by kernel_rfl) (by kernel_rfl) ?_; intro K hK)
 | (with_reducible refine a_cond (ht := ?_) (hf := ?_) <;> intro hb <;> (try simp at hb) <;> (try contradiction) <;> (try subst hb) <;> (try omega))
 | (with_reducible first | refine a_move (hr:=?_) | refine a_assign (hr:=?_) | refine a_load (hr:=?_) | refine a_fieldAddr (hr:=?_) | refine a_bin (hr:=?_) | refine a_lenS (hr:=?_) | refine a_lenR (hr:=?_) | refine a_pick (hr:=?_) | refine a_box (hr:=?_) | refine a_neB (hr:=?_) | refine a_idxArr (hr:=?_) | refine a_neS (hr:=?_) | refine a_indexAddr (hr:=?_) | refine a_gT (hr:=?_) | refine a_gF (hr:=?_) | refine a_gU (hr:=?_))
 | (with_reducible refine a_gB (hT := ?_) (hF := ?_) <;> intro hb <;> (try simp at hb) <;> (try contradiction) <;> (try subst hb) <;> (try omega))
 | fail)
        (refine zzr hQ ?_)
        exact zzd
  · have hne : ¬ (am = bm ∧ an = bn ∧ af = bf) := fun ⟨e1, e2, e3⟩ => hh ⟨e1, by rw [e2], by rw [e3]⟩
    rw [decide_eq_false hne] at hR
    subst hR
    by_cases e1 : am = bm
    · by_cases e2 : an.length = bn.length
      · have e3 : ¬ af.length = bf.length := fun h => hh ⟨e1, e2, h⟩
        have e2' : (an.length : Int) = bn.length := by omega
        have e3' : ¬ (af.length : Int) = bf.length := by omega
        subst e1
        clear hne hh
        refine zzg (nt := 66) (rs := [.tmp 4]) Try.func12 ?_; intro Q hQ hW
        repeat' (first
 | (with_reducible refine run_n ?_; with_reducible first | refine hK _ _ (by simp) ?_ | refine hK _ _ ?_; clear hK K)
 | (refine zzc ?_)
 | (with_reducible refine awp_regT (by kernel_rfl) ?_; intro K hK)
 | (with_reducible refine awp_regAM (id := 6) [] mixed (by kernel_rfl) (by kernel_rfl) ?_; intro K hK)
 | (with_reducible refine awp_regAM (id := 12) [] mixed (by kernel_rfl) (by kernel_rfl) ?_; intro K hK)
 | (with_reducible refine a_cond (ht := ?_) (hf := ?_) <;> intro hb <;> (try simp at hb) <;> (try contradiction) <;> (try subst hb) <;> (try omega))
 | (with_reducible first | refine a_move (hr:=?_) | refine a_assign (hr:=?_) | refine a_load (hr:=?_) | refine a_fieldAddr (hr:=?_) | refine a_bin (hr:=?_) | refine a_lenS (hr:=?_) | refine a_lenR (hr:=?_) | refine a_pick (hr:=?_) | refine a_box (hr:=?_) | refine a_neB (hr:=?_) | refine a_idxArr (hr:=?_) | refine a_neS (hr:=?_) | refine a_indexAddr (hr:=?_) | refine a_gT (hr:=?_) | refine a_gF (hr:=?_) | refine a_gU (hr:=?_))
 | (with_reducible refine a_gB (hT := ?_) (hF := ?_) <;> intro hb <;> (try simp at hb) <;> (try contradiction) <;> (try subst hb) <;> (try omega))
 | fail)
        all_goals ((refine zzr hQ ?_))
        all_goals (exact zzd)
      · have e2' : ¬ (an.length : Int) = bn.length := by omega
        subst e1
        clear hne hh
        refine zzg (nt := 66) (rs := [.tmp 4]) Try.func12 ?_; intro Q hQ hW
        repeat' (first
 | (with_reducible refine run_n ?_; with_reducible first | refine hK _ _ (by simp) ?_ | refine hK _ _ ?_; clear hK K)
 | (refine zzc ?_)
 | (with_reducible refine awp_regT (by kernel_rfl) ?_; intro K hK)
 | (with_reducible refine awp_regAM (id := 6) [] mixed (by kernel_rfl) (by kernel_rfl) ?_; intro K hK)
 | (with_reducible refine awp_regAM (id := 12) [] mixed (by kernel_rfl) (by kernel_rfl) ?_; intro K hK)
 | (with_reducible refine a_cond (ht := ?_) (hf := ?_) <;> intro hb <;> (try simp at hb) <;> (try contradiction) <;> (try subst hb) <;> (try omega))
 | (with_reducible first | refine a_move (hr:=?_) | refine a_assign (hr:=?_) | refine a_load (hr:=?_) | refine a_fieldAddr (hr:=?_) | refine a_bin (hr:=?_) | refine a_lenS (hr:=?_) | refine a_lenR (hr:=?_) | refine a_pick (hr:=?_) | refine a_box (hr:=?_) | refine a_neB (hr:=?_) | refine a_idxArr (hr:=?_) | refine a_neS (hr:=?_) | refine a_indexAddr (hr:=?_) | refine a_gT (hr:=?_) | refine a_gF (hr:=?_) | refine a_gU (hr:=?_))
 | (with_reducible refine a_gB (hT := ?_) (hF := ?_) <;> intro hb <;> (try simp at hb) <;> (try contradiction) <;> (try subst hb) <;> (try omega))
 | fail)
        all_goals ((refine zzr hQ ?_))
        all_goals (exact zzd)
    · clear hne hh
      refine zzg (nt := 66) (rs := [.tmp 4]) Try.func12 ?_; intro Q hQ hW
      repeat' (first
 | (with_reducible refine run_n ?_; with_reducible first | refine hK _ _ (by simp) ?_ | refine hK _ _ ?_; clear hK K)
 | (refine zzc ?_)
 | (with_reducible refine awp_regT (by kernel_rfl) ?_; intro K hK)
 | (with_reducible refine awp_regAM (id := 6) [] mixed (by kernel_rfl) (by kernel_rfl) ?_; intro K hK)
 | (with_reducible refine awp_regAM (id := 12) [] mixed (by kernel_rfl) (by kernel_rfl) ?_; intro K hK)
 | (with_reducible refine a_cond (ht := ?_) (hf := ?_) <;> intro hb <;> (try simp at hb) <;> (try contradiction) <;> (try subst hb) <;> (try omega))
 | (with_reducible first | refine a_move (hr:=?_) | refine a_assign (hr:=?_) | refine a_load (hr:=?_) | refine a_fieldAddr (hr:=?_) | refine a_bin (hr:=?_) | refine a_lenS (hr:=?_) | refine a_lenR (hr:=?_) | refine a_pick (hr:=?_) | refine a_box (hr:=?_) | refine a_neB (hr:=?_) | refine a_idxArr (hr:=?_) | refine a_neS (hr:=?_) | refine a_indexAddr (hr:=?_) | refine a_gT (hr:=?_) | refine a_gF (hr:=?_) | refine a_gU (hr:=?_))
 | (with_reducible refine a_gB (hT := ?_) (hF := ?_) <;> intro hb <;> (try simp at hb) <;> (try contradiction) <;> (try subst hb) <;> (try omega))
 | fail)
      all_goals ((refine zzr hQ ?_))
      all_goals (exact zzd)
end Go.Proofs.Ytejeemhenoobjaa.Asl

