/- Part 29 of what the row leans on: abstract values and states, their rules, and the contracts of the functions. -/
import Derived.Test.YtjbbnollidcagaaDoorZgc28
namespace Go.Proofs.YtjbbnollidcagaaDoor.Asl
open Go Go.RowKit
set_option linter.unusedVariables false
set_option linter.unusedSimpArgs false
set_option maxRecDepth 100000
set_option maxHeartbeats 4000000
def sumS (l : List Pc) : Nat := (l.map fun p => p.s.size).sum
theorem sumS_app (l m : List Pc) : sumS (l ++ m) = sumS l + sumS m := by simp [sumS]
theorem sumS_one (p : Pc) : sumS [p] = p.s.size := by simp [sumS]
theorem sumS_mem {l : List Pc} {p : Pc} (h : p ∈ l) : p.s.size ≤ sumS l := by
  induction l with
  | nil => cases h
  | cons q l ih =>
    have e : sumS (q :: l) = q.s.size + sumS l := by simp [sumS]
    rw [e]
    rcases List.mem_cons.1 h with rfl | h
    · omega
    · have := ih h; omega
theorem nameB_le {l : List Int} (h : nameB l = true) : l.length ≤ 16 := by
  cases l with
  | nil => simp
  | cons c l => simp [nameB] at h; simp; omega
theorem nat10_le (n : Int) : (nat10 20 n).length ≤ 20 := nat10_len 20 n
theorem prtS_size {k n : Int} {s : ByteArray} (h : rightE k n s = 0) : (prtS k n s).size ≤ 200 := by
  have e : (prtS k n s).size = (prtL k n s).length := by unfold prtS; rw [size_of_nums]
  rw [e]
  unfold prtL
  split
  · unfold digs10
    split
    · have := nat10_le (-n); simp; omega
    · have := nat10_le n; omega
  · split
    · split <;> simp
    · split
      · rename_i k3
        subst k3
        have h64 : s.size ≤ 64 := by
          simp only [rightE, if_true] at h
          by_cases h64 : 64 < s.size
          · rw [if_pos h64] at h; exact absurd h (by decide)
          · omega
        have := flat_esc (bytesOf s)
        rw [len_bytes] at this
        simp only [quoQ, List.length_cons, List.length_append, List.length_nil]; omega
      · simp
/-- What is right by itself is short. -/
theorem nul_wf {t : TermV} (h : ownE t = 0) (h0 : takesE t.op = 0) : (nulE t).s.size ≤ 200 ∧ 0 ≤ (nulE t).deep ∧ (nulE t).deep ≤ 1 := by
  have hop := ownE_op h
  have hop2 : t.op < 3 := by
    unfold takesE at h0
    split at h0
    · assumption
    · split at h0 <;> cases h0
  unfold ownE at h
  rw [if_neg (by omega)] at h
  unfold nulE
  by_cases k0 : t.op = 0
  · rw [if_pos k0]
    rw [if_neg (by simp [k0])] at h
    by_cases hn : ¬ (t.op = 1 ∨ t.op = 2) ∧ t.n ≠ ⟨#[]⟩
    · rw [if_pos hn] at h; exact absurd h (by decide)
    rw [if_neg hn, if_neg (by omega), if_neg (by simp [k0])] at h
    by_cases hr : rightE t.k t.v t.s ≠ 0
    · rw [if_pos hr] at h; exact absurd h hr
    exact ⟨prtS_size (by simpa using hr), by simp, by simp⟩
  · rw [if_neg k0]
    have k12 : t.op = 1 ∨ t.op = 2 := by omega
    by_cases hv : t.op ≠ 0 ∧ ¬ (t.k = 0 ∧ t.v = 0 ∧ t.s = ⟨#[]⟩)
    · rw [if_pos hv] at h; exact absurd h (by decide)
    rw [if_neg hv, if_neg (fun hh => hh.1 k12), if_pos k12] at h
    have hnm : nameB (bytesOf t.n) = true := by
      by_cases hb : resB t.n = true ∨ nameB (bytesOf t.n) = false
      · rw [if_pos hb] at h; exact absurd h (by decide)
      · cases hq : nameB (bytesOf t.n) with
        | true => rfl
        | false => exact absurd (.inr hq) hb
    have := nameB_le hnm
    rw [len_bytes] at this
    have e1 : (⟨#[104, 97, 115, 40]⟩ : ByteArray).size = 4 := rfl
    have e2 : (⟨#[41]⟩ : ByteArray).size = 1 := rfl
    split
    · exact ⟨by simp only; omega, by simp, by simp⟩
    · exact ⟨by simp only [ByteArray.size_append]; omega, by simp, by simp⟩
theorem held_sz (p : Pc) (k : Int) : (heldE p k).s.size ≤ p.s.size + 2 ∧ (0 ≤ p.deep → 0 ≤ (heldE p k).deep) ∧ (heldE p k).deep ≤ p.deep + 1 := by
  unfold heldE
  have e1 : (⟨#[40]⟩ : ByteArray).size = 1 := rfl
  have e2 : (⟨#[41]⟩ : ByteArray).size = 1 := rfl
  split
  · exact ⟨by omega, fun h => h, by omega⟩
  · exact ⟨by simp only [ByteArray.size_append]; omega, fun h => by simp only; omega, by simp only; omega⟩
theorem join_wf {t : TermV} {l : List Pc} {d : Int} (h : ownE t = 0) (hl : l.length = takesE t.op) (hd : ∀ p ∈ l, 0 ≤ p.deep ∧ p.deep ≤ d) (h0 : 0 ≤ d) : (joinE t l).s.size ≤ sumS l + 200 ∧ 0 ≤ (joinE t l).deep ∧ (joinE t l).deep ≤ d + 2 := by
  have hop := ownE_op h
  have hsg := sgn_size hop
  rcases l with _ | ⟨a, _ | ⟨b, l⟩⟩
  · have := nul_wf h hl.symm
    simp only [joinE, sumS, List.map_nil, List.sum_nil]
    omega
  · have q := held_sz a (strE t.op)
    have ha := hd a (by simp)
    have e3 : (⟨#[108, 101, 110, 40]⟩ : ByteArray).size = 4 := rfl
    have e2 : (⟨#[41]⟩ : ByteArray).size = 1 := rfl
    simp only [joinE, unE, sumS_one]
    split
    · exact ⟨by simp only [ByteArray.size_append]; omega, by simp only; omega, by simp only; omega⟩
    · have := q.2.1 ha.1
      exact ⟨by simp only [ByteArray.size_append]; omega, by simp only; omega, by simp only; omega⟩
  · have q1 := held_sz a (if strE t.op = 2 then 3 else strE t.op)
    have q2 := held_sz b (strE t.op + 1)
    have ha := hd a (by simp)
    have hb := hd b (by simp)
    have e1 : (⟨#[32]⟩ : ByteArray).size = 1 := rfl
    have es : sumS (a :: b :: l) = a.s.size + (b.s.size + sumS l) := by simp [sumS]
    have := q1.2.1 ha.1
    have := q2.2.1 hb.1
    rw [es]
    simp only [joinE, biE]
    refine ⟨by simp only [ByteArray.size_append]; omega, ?_, ?_⟩
    · omega
    · omega
/-- The pieces that stand, or what is wrong. -/
def wholeL : List TermV → List Pc → Int × List Pc
  | [], st => (0, st)
  | t :: l, st => if ownE t ≠ 0 then (ownE t, []) else if st.length < takesE t.op then (6, []) else wholeL l (st.take (st.length - takesE t.op) ++ [joinE t (st.drop (st.length - takesE t.op))])
def Pc.z : Pc := ⟨⟨#[]⟩, 0, 0⟩
def outW (r : Int × List Pc) : Pc × Int := if r.1 ≠ 0 then (Pc.z, r.1) else match r.2 with
  | [] => (Pc.z, 6)
  | [p] => if 12 < p.deep then (Pc.z, 50) else (p, 0)
  | _ => (Pc.z, 8)
def wholeE (e : List TermV) : Pc × Int := if 40 < e.length then (Pc.z, 3) else outW (wholeL e [])
structure WhI (e : List TermV) (R : Int × List Pc) (i : Nat) (st : List Pc) : Prop where
  iN : i ≤ e.length
  eq : wholeL (e.drop i) st = R
  ln : st.length ≤ i
  sz : sumS st ≤ 200 * i
  dp : ∀ p ∈ st, 0 ≤ p.deep ∧ p.deep ≤ 2 * i
theorem WhI.next {e : List TermV} {R : Int × List Pc} {i : Nat} {st : List Pc} {t : TermV} {l : List TermV} (h : WhI e R i st) (hd : e.drop i = t :: l) (ho : ownE t = 0) (hn : ¬ st.length < takesE t.op) : WhI e R (i + 1) (st.take (st.length - takesE t.op) ++ [joinE t (st.drop (st.length - takesE t.op))]) := by
  obtain ⟨h1, h2, h3, h4, h5⟩ := h
  have hlt : i < e.length := by
    rcases Nat.lt_or_ge i e.length with h | h
    · exact h
    · rw [List.drop_of_length_le h] at hd; cases hd
  have hd2 : e.drop (i + 1) = l := by
    have := congrArg (List.drop 1) hd
    rw [List.drop_drop] at this
    simpa using this
  have hdl : (st.drop (st.length - takesE t.op)).length = takesE t.op := by rw [List.length_drop]; omega
  have hj := join_wf (d := 2 * i) ho hdl (fun p hp => h5 p (List.mem_of_mem_drop hp)) (by omega)
  have hsp : sumS (st.take (st.length - takesE t.op)) + sumS (st.drop (st.length - takesE t.op)) = sumS st := by rw [← sumS_app, List.take_append_drop]
  refine ⟨hlt, ?_, ?_, ?_, ?_⟩
  · rw [hd2, ← h2, hd, wholeL, if_neg (by simpa using ho), if_neg hn]
  · rw [List.length_append, List.length_take, List.length_singleton]; omega
  · rw [sumS_app, sumS_one]; omega
  · intro p hp
    rcases List.mem_append.1 hp with hp | hp
    · have := h5 p (List.mem_of_mem_take hp); omega
    · rw [List.mem_singleton.1 hp]; omega
theorem CallD.nil2b {P : Program} {f : FuncId} {sz : Nat} {a r : AV} {g g' : Hp} (hc : CallD P f [a, .sl sz []] g r g') : CallD P f [a, .raw (.slice none 0 0)] g r g' := by
  intro C vs hC hvs
  cases hvs with
  | cons h1 h2 =>
    cases h2 with
    | cons h2 h3 =>
      rw [RV.raw_eq h2]
      exact hc C _ hC (.cons h1 (.cons .sl0 h3))
theorem drop_mapL (a : List Pc) (l : List AV) : List.drop a.length (List.map pcAV a ++ l) = l := by
  have h : (List.map pcAV a).length = a.length := by simp
  rw [← h, List.drop_left]
theorem take_mapL (a : List Pc) (l : List AV) : List.take a.length (List.map pcAV a ++ l) = List.map pcAV a := by
  have h : (List.map pcAV a).length = a.length := by simp
  rw [← h, List.take_left]
theorem take_mapS (a : List Pc) : List.take a.length (List.map pcAV a) = List.map pcAV a := List.take_of_length_le (by simp)
attribute [local simp] drop_mapL take_mapL take_mapS
theorem c_whole (e : List TermV) (hw : ∀ t ∈ e, wfT t) (hl : e.length ≤ 140737488351232) : CallD Tryd.prog 75 [.sl 5 (e.map termAV)] noHeap (.tup [pcAV (wholeE e).1, .raw (.int .i64 (wholeE e).2)]) noHeap := by
  unfold wholeE
  by_cases h40 : 40 < e.length
  · rw [if_pos h40]
    refine zzg (nt := 65) (rs := [.cell 2 120, .tmp 3]) Tryd.func75 ?_; intro Q hQ hW
    repeat' (first
 | (with_reducible refine run_n ?_; with_reducible first | refine hK _ _ (by simp) ?_ | refine hK _ _ ?_; clear hK K)
 | (refine zzc ?_)
 | (with_reducible refine awp_regT (by kernel_rfl) ?_; intro K hK)
 | (with_reducible refine awp_regAM (id := 13) [(6, some 6)] mixed (by kernel_rfl) (by kernel_rfl) ?_; intro K hK)
 | (with_reducible refine a_cond (ht := ?_) (hf := ?_) <;> intro hb <;> (try simp at hb) <;> (try contradiction) <;> (try subst hb) <;> (try omega))
 | (with_reducible first | refine a_move (hr:=?_) | refine a_assign (hr:=?_) | refine a_load (hr:=?_) | refine a_fieldAddr (hr:=?_) | refine a_bin (hr:=?_) | refine a_lenS (hr:=?_) | refine a_lenR (hr:=?_) | refine a_store (hr:=?_) | refine a_alloc (hr:=?_) | refine a_eqB (hr:=?_) | refine a_neB (hr:=?_) | refine a_idxArr (hr:=?_) | refine a_sliceArr (hr:=?_) | refine a_eqS (hr:=?_) | refine a_neS (hr:=?_) | refine a_sliceS (hr:=?_) | refine a_sliceR (hr:=?_) | refine a_indexAddr (hr:=?_) | refine a_build (hr:=?_) | refine a_buildSlice (hr:=?_) | refine a_append (hr:=?_) | refine a_append0 (hr:=?_) | refine a_appendX (hr:=?_))
 | fail)
    all_goals ((refine zzr hQ ?_))
    all_goals (exact zzd)
  rw [if_neg h40]
  obtain ⟨R, hR⟩ : ∃ R, wholeL e [] = R := ⟨_, rfl⟩
  rw [hR]
  have start : WhI e R 0 [] := ⟨Nat.zero_le _, hR, Nat.le_refl _, by simp [sumS], by simp⟩
  refine zzg (nt := 65) (rs := [.cell 2 120, .tmp 3]) Tryd.func75 ?_; intro Q hQ hW
  repeat' (first
 | (with_reducible refine run_n ?_; with_reducible first | refine hK _ _ (by simp) ?_ | refine hK _ _ ?_; clear hK K)
 | (refine zzc ?_)
 | (with_reducible refine awp_regT (by kernel_rfl) ?_; intro K hK)
 | (with_reducible refine awp_regAM (id := 13) [(6, some 6)] mixed (by kernel_rfl) (by kernel_rfl) ?_; intro K hK)
 | (with_reducible refine a_cond (ht := ?_) (hf := ?_) <;> intro hb <;> (try simp at hb) <;> (try contradiction) <;> (try subst hb) <;> (try omega))
 | (with_reducible first | refine a_move (hr:=?_) | refine a_assign (hr:=?_) | refine a_load (hr:=?_) | refine a_fieldAddr (hr:=?_) | refine a_bin (hr:=?_) | refine a_lenS (hr:=?_) | refine a_lenR (hr:=?_) | refine a_store (hr:=?_) | refine a_alloc (hr:=?_) | refine a_eqB (hr:=?_) | refine a_neB (hr:=?_) | refine a_idxArr (hr:=?_) | refine a_sliceArr (hr:=?_) | refine a_eqS (hr:=?_) | refine a_neS (hr:=?_) | refine a_sliceS (hr:=?_) | refine a_sliceR (hr:=?_) | refine a_indexAddr (hr:=?_) | refine a_build (hr:=?_) | refine a_buildSlice (hr:=?_) | refine a_append (hr:=?_) | refine a_append0 (hr:=?_) | refine a_appendX (hr:=?_))
 | fail)
  refine awp_inv (α := Nat × List Pc) (fun s => [(2, .ptr 2 0), (4, orow 60 3 (s.2.map pcAV)), (13, .sl 5 (e.map termAV)), (14, .raw (.int .i64 e.length)), (15, .raw (.int .i64 s.1))]) (fun s => ohp 60 3 (s.2.map pcAV) (hpL [(2, .box (pcAV Pc.z))])) (fun s => WhI e R s.1 s.2) (fun s => e.length - s.1) (0, []) start (by unfold Pc.z; exact zzw) ?_
  rintro ⟨i, st⟩ g
  simp only at g ⊢
  unfold Pc.z
  have hsd : ∀ m, ∀ p ∈ st.drop m, p.s.size ≤ 8000 := fun m p hp => by have := sumS_mem (List.mem_of_mem_drop hp); have := g.sz; have := g.iN; omega
  rcases Nat.lt_or_ge i e.length with hlt | hge
  · have hx := List.getElem?_eq_getElem hlt
    have hd := List.drop_eq_getElem_cons hlt
    have hwt := hw e[i] (List.getElem_mem hlt)
    generalize e[i] = y at hx hd hwt
    have q1 := c_own y (by have := hwt.2.2.2; omega)
    have heq := g.eq
    rw [hd, wholeL] at heq
    by_cases ho : ownE y = 0
    · rw [if_neg (by simpa using ho)] at heq
      have hop := ownE_op ho
      have q2 := c_takes y.op hop
      have htk2 : takesE y.op ≤ 2 := by unfold takesE; split <;> (try split) <;> omega
      have hln := g.ln
      have hiN := g.iN
      rw [ho] at q1
      by_cases hn : st.length < takesE y.op
      · rw [if_pos hn] at heq
        have hF : outW R = (Pc.z, 6) := by rw [← heq]; rfl
        rw [hF] at hQ
        generalize takesE y.op = tk at q2 hn htk2
        unfold Pc.z at hQ
        clear heq g hd
        obtain ⟨op, k, v, s, n⟩ := y
        by_cases hst : st = []
        · subst hst
          repeat' (first
 | (with_reducible refine run_n ?_; with_reducible first | refine hK _ _ (by simp) ?_ | refine hK _ _ ?_; clear hK K)
 | (refine zzc ?_)
 | (with_reducible refine awp_regT (by kernel_rfl) ?_; intro K hK)
 | (with_reducible refine awp_regAM (id := 13) [(6, some 6)] mixed (by kernel_rfl) (by kernel_rfl) ?_; intro K hK)
 | (with_reducible refine a_cond (ht := ?_) (hf := ?_) <;> intro hb <;> (try simp at hb) <;> (try contradiction) <;> (try subst hb) <;> (try omega))
 | (with_reducible first | refine a_move (hr:=?_) | refine a_assign (hr:=?_) | refine a_load (hr:=?_) | refine a_fieldAddr (hr:=?_) | refine a_bin (hr:=?_) | refine a_lenS (hr:=?_) | refine a_lenR (hr:=?_) | refine a_store (hr:=?_) | refine a_alloc (hr:=?_) | refine a_eqB (hr:=?_) | refine a_neB (hr:=?_) | refine a_idxArr (hr:=?_) | refine a_sliceArr (hr:=?_) | refine a_eqS (hr:=?_) | refine a_neS (hr:=?_) | refine a_sliceS (hr:=?_) | refine a_sliceR (hr:=?_) | refine a_indexAddr (hr:=?_) | refine a_build (hr:=?_) | refine a_buildSlice (hr:=?_) | refine a_append (hr:=?_) | refine a_append0 (hr:=?_) | refine a_appendX (hr:=?_) | refine a_call0 (hcall := q1) (hr:=?_) | refine a_call0 (hcall := q2) (hr:=?_))
 | fail)
          all_goals ((refine zzr hQ ?_))
          all_goals (exact zzd)
        · have hne : st.map pcAV ≠ [] := by simpa using hst
          rw [orow_ne hne, ohp_ne hne]
          repeat' (first
 | (with_reducible refine run_n ?_; with_reducible first | refine hK _ _ (by simp) ?_ | refine hK _ _ ?_; clear hK K)
 | (refine zzc ?_)
 | (with_reducible refine awp_regT (by kernel_rfl) ?_; intro K hK)
 | (with_reducible refine awp_regAM (id := 13) [(6, some 6)] mixed (by kernel_rfl) (by kernel_rfl) ?_; intro K hK)
 | (with_reducible refine a_cond (ht := ?_) (hf := ?_) <;> intro hb <;> (try simp at hb) <;> (try contradiction) <;> (try subst hb) <;> (try omega))
 | (with_reducible first | refine a_move (hr:=?_) | refine a_assign (hr:=?_) | refine a_load (hr:=?_) | refine a_fieldAddr (hr:=?_) | refine a_bin (hr:=?_) | refine a_lenS (hr:=?_) | refine a_lenR (hr:=?_) | refine a_store (hr:=?_) | refine a_alloc (hr:=?_) | refine a_eqB (hr:=?_) | refine a_neB (hr:=?_) | refine a_idxArr (hr:=?_) | refine a_sliceArr (hr:=?_) | refine a_eqS (hr:=?_) | refine a_neS (hr:=?_) | refine a_sliceS (hr:=?_) | refine a_sliceR (hr:=?_) | refine a_indexAddr (hr:=?_) | refine a_build (hr:=?_) | refine a_buildSlice (hr:=?_) | refine a_append (hr:=?_) | refine a_append0 (hr:=?_) | refine a_appendX (hr:=?_) | refine a_call0 (hcall := q1) (hr:=?_) | refine a_call0 (hcall := q2) (hr:=?_))
 | fail)
          all_goals ((refine zzr hQ ?_))
          all_goals (exact zzd)
      · have gn := g.next hd ho hn
        have hj := c_join y (st.drop (st.length - takesE y.op)) ho (by rw [List.length_drop]; omega) hwt (fun p hp => ⟨by have := sumS_mem (List.mem_of_mem_drop hp); have := g.sz; have := hsd _ p hp; omega, by have := g.dp p (List.mem_of_mem_drop hp); have := g.iN; omega⟩)
        by_cases hst : st = []
        · subst hst
          have htk : takesE y.op = 0 := by simpa using hn
          rw [htk] at q2 hj gn
          simp only [List.length_nil, Nat.sub_zero, List.drop_nil, List.take_nil, List.nil_append, List.map_nil] at hj gn
          have hj2 := CallD.nil2b hj
          clear heq hd hj g htk
          generalize joinE y [] = z at hj2 gn
          obtain ⟨op, k, v, s, n⟩ := y
          repeat' (first
 | (with_reducible refine run_n ?_; with_reducible first | refine hK _ _ (by simp) ?_ | refine hK _ _ ?_; clear hK K)
 | (refine zzc ?_)
 | (with_reducible refine awp_regT (by kernel_rfl) ?_; intro K hK)
 | (with_reducible refine awp_regAM (id := 13) [(6, some 6)] mixed (by kernel_rfl) (by kernel_rfl) ?_; intro K hK)
 | (with_reducible refine a_cond (ht := ?_) (hf := ?_) <;> intro hb <;> (try simp at hb) <;> (try contradiction) <;> (try subst hb) <;> (try omega))
 | (with_reducible first | refine a_sliceN (hr:=?_) | refine a_move (hr:=?_) | refine a_assign (hr:=?_) | refine a_load (hr:=?_) | refine a_fieldAddr (hr:=?_) | refine a_bin (hr:=?_) | refine a_lenS (hr:=?_) | refine a_lenR (hr:=?_) | refine a_store (hr:=?_) | refine a_alloc (hr:=?_) | refine a_eqB (hr:=?_) | refine a_neB (hr:=?_) | refine a_idxArr (hr:=?_) | refine a_sliceArr (hr:=?_) | refine a_eqS (hr:=?_) | refine a_neS (hr:=?_) | refine a_sliceS (hr:=?_) | refine a_sliceR (hr:=?_) | refine a_indexAddr (hr:=?_) | refine a_build (hr:=?_) | refine a_buildSlice (hr:=?_) | refine a_append (hr:=?_) | refine a_append0 (hr:=?_) | refine a_appendX (hr:=?_) | refine a_call0 (hcall := q1) (hr:=?_) | refine a_call0 (hcall := q2) (hr:=?_) | refine a_callF (hcall := hj2) (hr:=?_))
 | fail)
          exact ⟨(i + 1, [z]), by simp only; omega, gn, zzx 60 43⟩
        · have hne : st.map pcAV ≠ [] := by simpa using hst
          rw [orow_ne hne, ohp_ne hne]
          obtain ⟨a, b, rfl, hb1, hb2, hb3⟩ : ∃ a b, st = a ++ b ∧ st.take (st.length - takesE y.op) = a ∧ st.drop (st.length - takesE y.op) = b ∧ b.length = takesE y.op := ⟨_, _, (List.take_append_drop (st.length - takesE y.op) st).symm, rfl, rfl, by rw [List.length_drop]; omega⟩
          rw [hb2] at hj gn
          rw [hb1] at gn
          generalize joinE y b = z at hj gn
          rw [← hb3] at q2 hn htk2
          clear heq hd g hb1 hb2 hb3 hne hst hsd
          rw [List.length_append] at hln
          obtain ⟨op, k, v, s, n⟩ := y
          simp only [List.map_append]
          repeat' (first
 | (with_reducible refine run_n ?_; with_reducible first | refine hK _ _ (by simp) ?_ | refine hK _ _ ?_; clear hK K)
 | (refine zzc ?_)
 | (with_reducible refine awp_regT (by kernel_rfl) ?_; intro K hK)
 | (with_reducible refine awp_regAM (id := 13) [(6, some 6)] mixed (by kernel_rfl) (by kernel_rfl) ?_; intro K hK)
 | (with_reducible refine a_cond (ht := ?_) (hf := ?_) <;> intro hb <;> (try simp at hb) <;> (try contradiction) <;> (try subst hb) <;> (try omega))
 | (with_reducible first | refine a_move (hr:=?_) | refine a_assign (hr:=?_) | refine a_load (hr:=?_) | refine a_fieldAddr (hr:=?_) | refine a_bin (hr:=?_) | refine a_lenS (hr:=?_) | refine a_lenR (hr:=?_) | refine a_store (hr:=?_) | refine a_alloc (hr:=?_) | refine a_eqB (hr:=?_) | refine a_neB (hr:=?_) | refine a_idxArr (hr:=?_) | refine a_sliceArr (hr:=?_) | refine a_eqS (hr:=?_) | refine a_neS (hr:=?_) | refine a_sliceS (hr:=?_) | refine a_sliceR (hr:=?_) | refine a_indexAddr (hr:=?_) | refine a_build (hr:=?_) | refine a_buildSlice (hr:=?_) | refine a_append (hr:=?_) | refine a_append0 (hr:=?_) | refine a_appendX (hr:=?_) | refine a_call0 (hcall := q1) (hr:=?_) | refine a_call0 (hcall := q2) (hr:=?_) | refine a_callL (hcall := hj) (hr:=?_))
 | fail)
          exact ⟨(i + 1, a ++ [z]), by simp only; omega, gn, zzx 60 43⟩
    · rw [if_pos ho] at heq
      have hF : outW R = (Pc.z, ownE y) := by rw [← heq]; unfold outW; rw [if_pos ho]
      rw [hF] at hQ
      generalize ownE y = ow at q1 ho hQ
      unfold Pc.z at hQ
      clear heq g hd hF
      obtain ⟨op, k, v, s, n⟩ := y
      repeat' (first
 | (with_reducible refine run_n ?_; with_reducible first | refine hK _ _ (by simp) ?_ | refine hK _ _ ?_; clear hK K)
 | (refine zzc ?_)
 | (with_reducible refine awp_regT (by kernel_rfl) ?_; intro K hK)
 | (with_reducible refine awp_regAM (id := 13) [(6, some 6)] mixed (by kernel_rfl) (by kernel_rfl) ?_; intro K hK)
 | (with_reducible refine a_cond (ht := ?_) (hf := ?_) <;> intro hb <;> (try simp at hb) <;> (try contradiction) <;> (try subst hb) <;> (try omega))
 | (with_reducible first | refine a_move (hr:=?_) | refine a_assign (hr:=?_) | refine a_load (hr:=?_) | refine a_fieldAddr (hr:=?_) | refine a_bin (hr:=?_) | refine a_lenS (hr:=?_) | refine a_lenR (hr:=?_) | refine a_store (hr:=?_) | refine a_alloc (hr:=?_) | refine a_eqB (hr:=?_) | refine a_neB (hr:=?_) | refine a_idxArr (hr:=?_) | refine a_sliceArr (hr:=?_) | refine a_eqS (hr:=?_) | refine a_neS (hr:=?_) | refine a_sliceS (hr:=?_) | refine a_sliceR (hr:=?_) | refine a_indexAddr (hr:=?_) | refine a_build (hr:=?_) | refine a_buildSlice (hr:=?_) | refine a_append (hr:=?_) | refine a_append0 (hr:=?_) | refine a_appendX (hr:=?_) | refine a_call0 (hcall := q1) (hr:=?_))
 | fail)
      all_goals ((refine zzr hQ ?_))
      all_goals (exact zzd)
  · obtain rfl : i = e.length := by have := g.iN; omega
    have heq := g.eq
    rw [List.drop_length, wholeL] at heq
    rw [← heq] at hQ
    clear heq hR start
    rcases st with _ | ⟨a, _ | ⟨b, l⟩⟩
    · simp only [outW, Pc.z] at hQ
      repeat' (first
 | (with_reducible refine run_n ?_; with_reducible first | refine hK _ _ (by simp) ?_ | refine hK _ _ ?_; clear hK K)
 | (refine zzc ?_)
 | (with_reducible refine awp_regT (by kernel_rfl) ?_; intro K hK)
 | (with_reducible refine awp_regAM (id := 13) [(6, some 6)] mixed (by kernel_rfl) (by kernel_rfl) ?_; intro K hK)
 | (with_reducible refine a_cond (ht := ?_) (hf := ?_) <;> intro hb <;> (try simp at hb) <;> (try contradiction) <;> (try subst hb) <;> (try omega))
 | (with_reducible first | refine a_move (hr:=?_) | refine a_assign (hr:=?_) | refine a_load (hr:=?_) | refine a_fieldAddr (hr:=?_) | refine a_bin (hr:=?_) | refine a_lenS (hr:=?_) | refine a_lenR (hr:=?_) | refine a_store (hr:=?_) | refine a_alloc (hr:=?_) | refine a_eqB (hr:=?_) | refine a_neB (hr:=?_) | refine a_idxArr (hr:=?_) | refine a_sliceArr (hr:=?_) | refine a_eqS (hr:=?_) | refine a_neS (hr:=?_) | refine a_sliceS (hr:=?_) | refine a_sliceR (hr:=?_) | refine a_indexAddr (hr:=?_) | refine a_build (hr:=?_) | refine a_buildSlice (hr:=?_) | refine a_append (hr:=?_) | refine a_append0 (hr:=?_) | refine a_appendX (hr:=?_))
 | fail)
      all_goals ((refine zzr hQ ?_))
      all_goals (exact zzd)
    · simp only [outW] at hQ
      obtain ⟨xa, xb, xc⟩ := a
      simp only at hQ
      by_cases hd : 12 < xc
      · rw [if_pos hd] at hQ
        unfold Pc.z at hQ
        repeat' (first
 | (with_reducible refine run_n ?_; with_reducible first | refine hK _ _ (by simp) ?_ | refine hK _ _ ?_; clear hK K)
 | (refine zzc ?_)
 | (with_reducible refine awp_regT (by kernel_rfl) ?_; intro K hK)
 | (with_reducible refine awp_regAM (id := 13) [(6, some 6)] mixed (by kernel_rfl) (by kernel_rfl) ?_; intro K hK)
 | (with_reducible refine a_cond (ht := ?_) (hf := ?_) <;> intro hb <;> (try simp at hb) <;> (try contradiction) <;> (try subst hb) <;> (try omega))
 | (with_reducible first | refine a_move (hr:=?_) | refine a_assign (hr:=?_) | refine a_load (hr:=?_) | refine a_fieldAddr (hr:=?_) | refine a_bin (hr:=?_) | refine a_lenS (hr:=?_) | refine a_lenR (hr:=?_) | refine a_store (hr:=?_) | refine a_alloc (hr:=?_) | refine a_eqB (hr:=?_) | refine a_neB (hr:=?_) | refine a_idxArr (hr:=?_) | refine a_sliceArr (hr:=?_) | refine a_eqS (hr:=?_) | refine a_neS (hr:=?_) | refine a_sliceS (hr:=?_) | refine a_sliceR (hr:=?_) | refine a_indexAddr (hr:=?_) | refine a_build (hr:=?_) | refine a_buildSlice (hr:=?_) | refine a_append (hr:=?_) | refine a_append0 (hr:=?_) | refine a_appendX (hr:=?_))
 | fail)
        all_goals ((refine zzr hQ ?_))
        all_goals (exact zzd)
      · rw [if_neg hd] at hQ
        repeat' (first
 | (with_reducible refine run_n ?_; with_reducible first | refine hK _ _ (by simp) ?_ | refine hK _ _ ?_; clear hK K)
 | (refine zzc ?_)
 | (with_reducible refine awp_regT (by kernel_rfl) ?_; intro K hK)
 | (with_reducible refine awp_regAM (id := 13) [(6, some 6)] mixed (by kernel_rfl) (by kernel_rfl) ?_; intro K hK)
 | (with_reducible refine a_cond (ht := ?_) (hf := ?_) <;> intro hb <;> (try simp at hb) <;> (try contradiction) <;> (try subst hb) <;> (try omega))
 | (with_reducible first | refine a_move (hr:=?_) | refine a_assign (hr:=?_) | refine a_load (hr:=?_) | refine a_fieldAddr (hr:=?_) | refine a_bin (hr:=?_) | refine a_lenS (hr:=?_) | refine a_lenR (hr:=?_) | refine a_store (hr:=?_) | refine a_alloc (hr:=?_) | refine a_eqB (hr:=?_) | refine a_neB (hr:=?_) | refine a_idxArr (hr:=?_) | refine a_sliceArr (hr:=?_) | refine a_eqS (hr:=?_) | refine a_neS (hr:=?_) | refine a_sliceS (hr:=?_) | refine a_sliceR (hr:=?_) | refine a_indexAddr (hr:=?_) | refine a_build (hr:=?_) | refine a_buildSlice (hr:=?_) | refine a_append (hr:=?_) | refine a_append0 (hr:=?_) | refine a_appendX (hr:=?_))
 | fail)
        all_goals ((refine zzr hQ ?_))
        all_goals (exact zzd)
    · simp only [outW, Pc.z] at hQ
      repeat' (first
 | (with_reducible refine run_n ?_; with_reducible first | refine hK _ _ (by simp) ?_ | refine hK _ _ ?_; clear hK K)
 | (refine zzc ?_)
 | (with_reducible refine awp_regT (by kernel_rfl) ?_; intro K hK)
 | (with_reducible refine awp_regAM (id := 13) [(6, some 6)] mixed (by kernel_rfl) (by kernel_rfl) ?_; intro K hK)
 | (with_reducible refine a_cond (ht := ?_) (hf := ?_) <;> intro hb <;> (try simp at hb) <;> (try contradiction) <;> (try subst hb) <;> (try omega))
 | (with_reducible first | refine a_move (hr:=?_) | refine a_assign (hr:=?_) | refine a_load (hr:=?_) | refine a_fieldAddr (hr:=?_) | refine a_bin (hr:=?_) | refine a_lenS (hr:=?_) | refine a_lenR (hr:=?_) | refine a_store (hr:=?_) | refine a_alloc (hr:=?_) | refine a_eqB (hr:=?_) | refine a_neB (hr:=?_) | refine a_idxArr (hr:=?_) | refine a_sliceArr (hr:=?_) | refine a_eqS (hr:=?_) | refine a_neS (hr:=?_) | refine a_sliceS (hr:=?_) | refine a_sliceR (hr:=?_) | refine a_indexAddr (hr:=?_) | refine a_build (hr:=?_) | refine a_buildSlice (hr:=?_) | refine a_append (hr:=?_) | refine a_append0 (hr:=?_) | refine a_appendX (hr:=?_))
 | fail)
      all_goals ((refine zzr hQ ?_))
      all_goals (exact zzd)
end Go.Proofs.YtjbbnollidcagaaDoor.Asl

namespace Go.Proofs.YtjbbnollidcagaaDoor.Asl
open Go Go.RowKit
set_option linter.unusedVariables false
set_option linter.unusedSimpArgs false
set_option maxRecDepth 100000
set_option maxHeartbeats 4000000
/-- Terms as a tree. -/
inductive Tr where
  | nul (t : TermV)
  | un (t : TermV) (a : Tr)
  | bi (t : TermV) (a b : Tr)
def Tr.root : Tr → TermV
  | .nul t => t
  | .un t _ => t
  | .bi t _ _ => t
def Tr.flat : Tr → List TermV
  | .nul t => [t]
  | .un t a => a.flat ++ [t]
  | .bi t a b => a.flat ++ b.flat ++ [t]
def Tr.pc : Tr → Pc
  | .nul t => nulE t
  | .un t a => unE t a.pc
  | .bi t a b => biE t a.pc b.pc
def Tr.ok : Tr → Prop
  | .nul t => ownE t = 0 ∧ takesE t.op = 0
  | .un t a => (ownE t = 0 ∧ takesE t.op = 1) ∧ a.ok
  | .bi t a b => (ownE t = 0 ∧ takesE t.op = 2) ∧ a.ok ∧ b.ok
def flats (ts : List Tr) : List TermV := ts.flatMap Tr.flat
theorem Tr.ok_root {T : Tr} (h : T.ok) : ownE T.root = 0 := by
  cases T with
  | nul t => exact h.1
  | un t a => exact h.1.1
  | bi t a b => exact h.1.1
theorem Tr.flat_ne (T : Tr) : 0 < T.flat.length := by
  cases T <;> simp only [Tr.flat, List.length_append, List.length_singleton] <;> omega
/-- A tree's last term is its root. -/
theorem Tr.flat_last (T : Tr) : T.flat[T.flat.length - 1]? = some T.root := by
  cases T with
  | nul t => rfl
  | un t a => simp [Tr.flat, Tr.root]
  | bi t a b => simp [Tr.flat, Tr.root]
theorem takes_cases (op : Int) : takesE op = 0 ∨ takesE op = 1 ∨ takesE op = 2 := by
  unfold takesE; split
  · exact .inl rfl
  · split
    · exact .inr (.inl rfl)
    · exact .inr (.inr rfl)
/-- The term takes the trees that were last. -/
theorem join_tr {t : TermV} {ts : List Tr} (ho : ownE t = 0) (hk : takesE t.op ≤ ts.length) (hts : ∀ T ∈ ts, T.ok) : ∃ T : Tr, T.ok ∧ T.root = t ∧ joinE t ((ts.map Tr.pc).drop (ts.length - takesE t.op)) = T.pc ∧ T.flat = flats (ts.drop (ts.length - takesE t.op)) ++ [t] := by
  rcases takes_cases t.op with h | h | h
  · rw [h]
    refine ⟨.nul t, ⟨ho, h⟩, rfl, ?_, ?_⟩
    · rw [Nat.sub_zero, List.drop_of_length_le (by simp)]; rfl
    · rw [Nat.sub_zero, List.drop_of_length_le (by simp)]; rfl
  · rw [h] at hk ⊢
    have hl : (ts.drop (ts.length - 1)).length = 1 := by rw [List.length_drop]; omega
    rcases hq : ts.drop (ts.length - 1) with _ | ⟨a, _ | ⟨b, l⟩⟩
    · rw [hq] at hl; cases hl
    · have ha : a ∈ ts := List.mem_of_mem_drop (i := ts.length - 1) (by rw [hq]; simp)
      refine ⟨.un t a, ⟨⟨ho, h⟩, hts a ha⟩, rfl, ?_, ?_⟩
      · rw [← List.map_drop, hq]; rfl
      · simp [flats, Tr.flat]
    · rw [hq] at hl; simp at hl
  · rw [h] at hk ⊢
    have hl : (ts.drop (ts.length - 2)).length = 2 := by rw [List.length_drop]; omega
    rcases hq : ts.drop (ts.length - 2) with _ | ⟨a, _ | ⟨b, _ | ⟨c, l⟩⟩⟩
    · rw [hq] at hl; cases hl
    · rw [hq] at hl; simp at hl
    · have ha : a ∈ ts := List.mem_of_mem_drop (i := ts.length - 2) (by rw [hq]; simp)
      have hb : b ∈ ts := List.mem_of_mem_drop (i := ts.length - 2) (by rw [hq]; simp)
      refine ⟨.bi t a b, ⟨⟨ho, h⟩, hts a ha, hts b hb⟩, rfl, ?_, ?_⟩
      · rw [← List.map_drop, hq]; rfl
      · simp [flats, Tr.flat]
    · rw [hq] at hl; simp at hl
/-- What stands in the end are trees, and together they are the terms. -/
theorem whole_tr : ∀ (l : List TermV) (ts : List Tr), (∀ T ∈ ts, T.ok) → (wholeL l (ts.map Tr.pc)).1 = 0 → ∃ us : List Tr, (wholeL l (ts.map Tr.pc)).2 = us.map Tr.pc ∧ (∀ T ∈ us, T.ok) ∧ flats us = flats ts ++ l
  | [], ts, h, _ => ⟨ts, rfl, h, by simp⟩
  | t :: l, ts, h, h0 => by
    rw [wholeL] at h0 ⊢
    by_cases ho : ownE t ≠ 0
    · rw [if_pos ho] at h0; exact absurd h0 ho
    rw [if_neg ho] at h0 ⊢
    have ho : ownE t = 0 := by simpa using ho
    rw [List.length_map] at h0 ⊢
    by_cases hk : ts.length < takesE t.op
    · rw [if_pos hk] at h0; exact absurd h0 (by decide)
    rw [if_neg hk] at h0 ⊢
    obtain ⟨T, q1, q2, q3, q4⟩ := join_tr ho (by omega) h
    have e : (ts.map Tr.pc).take (ts.length - takesE t.op) ++ [joinE t ((ts.map Tr.pc).drop (ts.length - takesE t.op))] = (ts.take (ts.length - takesE t.op) ++ [T]).map Tr.pc := by rw [q3]; simp
    rw [e] at h0 ⊢
    obtain ⟨us, r1, r2, r3⟩ := whole_tr l _ (fun X hX => by
      rcases List.mem_append.1 hX with hX | hX
      · exact h X (List.mem_of_mem_take hX)
      · rw [List.mem_singleton.1 hX]; exact q1) h0
    refine ⟨us, r1, r2, ?_⟩
    rw [r3]
    have e2 : flats (ts.take (ts.length - takesE t.op) ++ [T]) = flats ts ++ [t] := by
      have e3 : flats ts = flats (ts.take (ts.length - takesE t.op)) ++ flats (ts.drop (ts.length - takesE t.op)) := by
        conv => lhs; rw [← List.take_append_drop (ts.length - takesE t.op) ts]
        unfold flats; rw [List.flatMap_append]
      rw [e3]
      simp [flats, q4]
    rw [e2]; simp
theorem pc_str {T : Tr} (h : T.ok) : T.pc.str = strE T.root.op := by
  cases T with
  | nul t =>
    have hop := ownE_op h.1
    have h3 : t.op < 3 := by
      have := h.2
      unfold takesE at this
      split at this
      · assumption
      · split at this <;> cases this
    simp only [Tr.pc, Tr.root]
    have e : strE t.op = 6 := by unfold strE; rw [if_pos (Or.inl h3)]
    rw [e]
    unfold nulE
    split
    · rfl
    · split <;> rfl
  | un t a =>
    simp only [Tr.pc, unE, Tr.root]
    split
    · rename_i h5; rw [h5]; rfl
    · rfl
  | bi t a b => rfl
theorem pc_wf : ∀ {T : Tr}, T.ok → T.pc.s.size ≤ 200 * T.flat.length ∧ 0 ≤ T.pc.deep ∧ T.pc.deep ≤ 2 * T.flat.length
  | .nul t, h => by
    have := nul_wf h.1 h.2
    simp only [Tr.pc, Tr.flat, List.length_singleton]
    omega
  | .un t a, h => by
    have ih := pc_wf h.2
    have := join_wf (l := [a.pc]) (d := 2 * a.flat.length) h.1.1 h.1.2.symm (by simp; omega) (by omega)
    simp only [joinE, sumS_one] at this
    simp only [Tr.pc, Tr.flat, List.length_append, List.length_singleton]
    omega
  | .bi t a b, h => by
    have i1 := pc_wf h.2.1
    have i2 := pc_wf h.2.2
    have := join_wf (l := [a.pc, b.pc]) (d := 2 * (a.flat.length + b.flat.length)) h.1.1 h.1.2.symm (by simp; omega) (by omega)
    simp only [joinE] at this
    have es : sumS [a.pc, b.pc] = a.pc.s.size + b.pc.s.size := by simp [sumS]
    rw [es] at this
    simp only [Tr.pc, Tr.flat, List.length_append, List.length_singleton]
    omega
/-- Which part stands in brackets. -/
def brB (t x : Int) (right : Bool) : Bool := if t = 5 ∨ rstrE x = 9 then false else if rstrE t = 9 then true else decide (rstrE x < rstrE t) || (decide (rstrE x = rstrE t) && (right || decide (rstrE t = 2)))
theorem brB_all : ∀ t x : _root_.Fin 19, (brB t.val x.val true = (if (t.val : Int) = 5 then false else !decide ((if takesE t.val = 1 then strE t.val else strE t.val + 1) ≤ strE x.val)) ∨ takesE t.val = 0) ∧ (brB t.val x.val false = !decide ((if strE t.val = 2 then 3 else strE t.val) ≤ strE x.val) ∨ takesE t.val ≠ 2) := by decide +kernel
theorem brB_at {t x : Int} (ht : 0 ≤ t ∧ t ≤ 18) (hx : 0 ≤ x ∧ x ≤ 18) : (brB t x true = (if t = 5 then false else !decide ((if takesE t = 1 then strE t else strE t + 1) ≤ strE x)) ∨ takesE t = 0) ∧ (brB t x false = !decide ((if strE t = 2 then 3 else strE t) ≤ strE x) ∨ takesE t ≠ 2) := by
  obtain ⟨a, rfl⟩ := Int.eq_ofNat_of_zero_le ht.1
  obtain ⟨b, rfl⟩ := Int.eq_ofNat_of_zero_le hx.1
  exact brB_all ⟨a, by omega⟩ ⟨b, by omega⟩
end Go.Proofs.YtjbbnollidcagaaDoor.Asl

namespace Go.Proofs.YtjbbnollidcagaaDoor.Asl
open Go Go.RowKit
set_option linter.unusedVariables false
set_option linter.unusedSimpArgs false
set_option maxRecDepth 100000
set_option maxHeartbeats 1000000
def hexd (d : Int) : Int := if d < 10 then 48 + d else 87 + d
def hexAt (n : Int) (i : Nat) : Int := hexd (n / 2 ^ (60 - 4 * i) % 16)
def hexs (n : Int) : List Int := (List.range 16).map (hexAt n)
end Go.Proofs.YtjbbnollidcagaaDoor.Asl

namespace Go.Proofs.YtjbbnollidcagaaDoor.Asl
open Go Go.RowKit
set_option linter.unusedVariables false
set_option linter.unusedSimpArgs false
/-- The first part, and what stands behind it. -/
def fs : List Int → List Int → Option (List Int × List Int)
  | c :: d :: r, now => if c = 0 then (if d = 1 then some (now, r) else if d = 255 then fs r (now ++ [0]) else none) else fs (d :: r) (now ++ [c])
  | _, _ => none
termination_by l => l.length
/-- The least text above all that begin with one. -/
def after : List Int → List Int
  | [] => []
  | c :: r => if after r = [] then (if c < 255 then [c + 1] else []) else c :: after r
/-- A digit's byte. -/
def dg (x : Int) : Int := if x < 10 then 48 + x else 87 + x
/-- A number in k digits, the highest first. -/
def hxd (a : Int) : Nat → List Int
  | 0 => []
  | k + 1 => hxd (a / 16) k ++ [dg (a % 16)]
theorem dg_bound {x : Int} (h0 : 0 ≤ x) (h1 : x < 16) : 48 ≤ dg x ∧ dg x ≤ 102 := by unfold dg; split <;> omega
theorem hxd_range (a : Int) : ∀ k, (List.range k).map (fun i => dg (a / 16 ^ (k - 1 - i) % 16)) = hxd a k := by
  intro k
  induction k generalizing a with
  | zero => rfl
  | succ k ih =>
    rw [List.range_succ, List.map_append]
    simp only [hxd, List.map_cons, List.map_nil]
    rw [← ih (a / 16)]
    congr 1
    · apply List.map_congr_left
      intro i hi
      have hi' := List.mem_range.1 hi
      rw [show k + 1 - 1 - i = (k - 1 - i) + 1 by omega, Int.pow_succ, Int.mul_comm, ← Int.ediv_ediv_of_nonneg (by decide)]
    · simp
/-- What a digit stands for; 16: it is none. -/
def hv (c : Int) : Int := if 48 ≤ c ∧ c ≤ 57 then c - 48 else if 97 ≤ c ∧ c ≤ 102 then c - 87 else 16
def hexS : ByteArray := ⟨#[48, 49, 50, 51, 52, 53, 54, 55, 56, 57, 97, 98, 99, 100, 101, 102]⟩
/-- What the inner loop finds, with m rounds left. -/
def fin (c : Int) : Nat → Int → Int
  | 0, x => x
  | m + 1, x => fin c m (if dg (16 - ((m : Int) + 1)) = c then 16 - ((m : Int) + 1) else x)
theorem hexS_cut : ∀ j : _root_.Fin 16, bytesOf (hexS.extract j.val (j.val + 1)) = [dg (j.val : Int)] := by decide +kernel
theorem hexAt_dg (n : Int) (i : Nat) (hi : i < 16) : hexAt n i = dg (n / 16 ^ (15 - i) % 16) := by
  unfold hexAt
  rw [show (2 : Int) ^ (60 - 4 * i) = 16 ^ (15 - i) by rw [show (16 : Int) = 2 ^ 4 by decide, ← Int.pow_mul, show 60 - 4 * i = 4 * (15 - i) by omega]]
  rfl
theorem hexs_eq (n : Int) : hexs n = hxd n 16 := by
  rw [← hxd_range n 16]
  apply List.map_congr_left
  intro i hi
  exact hexAt_dg n i (List.mem_range.1 hi)
end Go.Proofs.YtjbbnollidcagaaDoor.Asl

namespace Go.Proofs.YtjbbnollidcagaaDoor.Asl
open Go Go.RowKit
set_option linter.unusedVariables false
set_option linter.unusedSimpArgs false
set_option maxRecDepth 100000
set_option maxHeartbeats 1000000
@[simp] theorem strs_eq_nil {l : List ByteArray} : strs l = [] ↔ l = [] := by simp [strs]
end Go.Proofs.YtjbbnollidcagaaDoor.Asl

namespace Go.Proofs.YtjbbnollidcagaaDoor.Asl
open Go Go.RowKit
set_option linter.unusedVariables false
set_option linter.unusedSimpArgs false
set_option maxRecDepth 100000
set_option maxHeartbeats 1000000
@[simp] theorem shl4_u64 (x : Int) : shlI .u64 x 4 = IntKind.wrap .u64 (x * 16) := rfl
end Go.Proofs.YtjbbnollidcagaaDoor.Asl

namespace Go.Proofs.YtjbbnollidcagaaDoor.Asl
open Go Go.RowKit
set_option linter.unusedVariables false
set_option linter.unusedSimpArgs false
set_option maxRecDepth 100000
set_option maxHeartbeats 1000000
theorem nums_app {a b : List Int} (ha : IsB a) (hb : IsB b) : strOfNums a ++ strOfNums b = strOfNums (a ++ b) := by
  apply bytes_inj
  rw [bytes_app, bytes_of_nums ha, bytes_of_nums hb, bytes_of_nums (isB_app.2 ⟨ha, hb⟩)]
end Go.Proofs.YtjbbnollidcagaaDoor.Asl

namespace Go.Proofs.YtjbbnollidcagaaDoor.Asl
open Go Go.RowKit
set_option linter.unusedVariables false
set_option linter.unusedSimpArgs false
set_option maxRecDepth 100000
set_option maxHeartbeats 1000000
theorem hex_cut (d : Int) (h0 : 0 ≤ d) (h1 : d < 16) : (⟨#[48, 49, 50, 51, 52, 53, 54, 55, 56, 57, 97, 98, 99, 100, 101, 102]⟩ : ByteArray).extract d.toNat (d + 1).toNat = strOfNums [dg d] := by
  have := hexS_cut ⟨d.toNat, by omega⟩
  simp only at this
  rw [show ((d.toNat : Nat) : Int) = d by omega] at this
  apply bytes_inj
  have hB : IsB [dg d] := isB_cons.2 ⟨by have := dg_bound h0 h1; omega, isB_nil⟩
  rw [bytes_of_nums hB, ← this, show (d + 1).toNat = d.toNat + 1 by omega]
  rfl
theorem c_rNumber (n : Int) (h0 : 0 ≤ n) (h1 : n < 18446744073709551616) : CallD Tryd.prog 99 [.raw (.int .u64 n)] noHeap (.raw (.string (strOfNums (hexs n)))) noHeap := by
  refine zzg (nt := 19) (rs := [.tmp 2]) Tryd.func99 ?_; intro Q hQ hW
  repeat' (first
 | (with_reducible refine run_n ?_; with_reducible first | refine hK _ _ (by simp) ?_ | refine hK _ _ ?_; clear hK K)
 | (refine zzc ?_)
 | (with_reducible refine awp_regT (by kernel_rfl) ?_; intro K hK)
 | (with_reducible refine a_cond (ht := ?_) (hf := ?_) <;> intro hb <;> (try simp at hb) <;> (try contradiction) <;> (try subst hb) <;> (try omega))
 | (with_reducible first | refine a_move (hr:=?_) | refine a_assign (hr:=?_) | refine a_remU (hr:=?_) | refine a_quoU (hr:=?_) | refine a_bin (hr:=?_) | refine a_sliceArr (hr:=?_) | refine a_sliceS (hr:=?_) | refine a_sliceR (hr:=?_))
 | fail)
  refine awp_inv (α := Nat × Int × List Int) (fun p => [(0, .raw (.int .u64 p.2.1)), (3, .raw (.string (strOfNums p.2.2))), (5, .raw (.int .i64 p.1))]) (fun p => hpL [])
    (fun p => p.1 ≤ 16 ∧ 0 ≤ p.2.1 ∧ p.2.1 < 18446744073709551616 ∧ IsB p.2.2 ∧ p.2.2.length = p.1 ∧ hxd p.2.1 (16 - p.1) ++ p.2.2 = hexs n) (fun p => 16 - p.1) (0, n, []) ⟨by simp, h0, h1, isB_nil, rfl, by simp [hexs_eq]⟩ (weak_o (by repeat' (first | exact sub_hpL (by simp))) (by simp) (by simp [strOfNums, -nums_eq])) ?_
  rintro ⟨i, m, S⟩ ⟨g1, g2, g3, g4, g5, g6⟩
  simp only at g1 g2 g3 g4 g5 g6 ⊢
  rw [← g6] at hQ
  rcases Nat.lt_or_ge i 16 with hlt | hge
  · have hd0 : 0 ≤ m % 16 := by omega
    have hd1 : m % 16 < 16 := by omega
    have hcut := hex_cut (m % 16) hd0 hd1
    have hB : IsB [dg (m % 16)] := isB_cons.2 ⟨by have := dg_bound hd0 hd1; omega, isB_nil⟩
    have happ := nums_app hB g4
    have hz1 := size_of_nums S
    have hz2 := size_of_nums [dg (m % 16)]
    rw [List.length_singleton] at hz2
    rw [show 16 - i = (16 - (i + 1)) + 1 by omega] at g6 hQ
    simp only [hxd, List.append_assoc] at g6 hQ
    have hsz : ((⟨#[48, 49, 50, 51, 52, 53, 54, 55, 56, 57, 97, 98, 99, 100, 101, 102]⟩ : ByteArray).extract (m % 16).toNat (m % 16 + 1).toNat).size = 1 := by rw [hcut, hz2]
    repeat' (first
 | (with_reducible refine run_n ?_; with_reducible first | refine hK _ _ (by simp) ?_ | refine hK _ _ ?_; clear hK K)
 | (refine zzc ?_)
 | (with_reducible refine awp_regT (by kernel_rfl) ?_; intro K hK)
 | (with_reducible refine a_cond (ht := ?_) (hf := ?_) <;> intro hb <;> (try simp at hb) <;> (try contradiction) <;> (try subst hb) <;> (try omega))
 | (with_reducible first | refine a_move (hr:=?_) | refine a_assign (hr:=?_) | refine a_remU (hr:=?_) | refine a_quoU (hr:=?_) | refine a_bin (hr:=?_) | refine a_sliceArr (hr:=?_) | refine a_sliceS (hr:=?_) | refine a_sliceR (hr:=?_))
 | fail)
    exact ⟨(i + 1, m / 16, [dg (m % 16)] ++ S), by simp only; omega, ⟨by simp only; omega, by simp only; omega, by simp only; omega, isB_app.2 ⟨hB, g4⟩, by simp [g5], g6⟩, weak_o (by repeat' (first | exact sub_hpL (by simp))) (by simp) (by simp [hcut, -nums_eq]; simpa using happ)⟩
  · obtain rfl : i = 16 := by omega
    simp only [Nat.sub_self, hxd, List.nil_append] at hQ
    repeat' (first
 | (with_reducible refine run_n ?_; with_reducible first | refine hK _ _ (by simp) ?_ | refine hK _ _ ?_; clear hK K)
 | (refine zzc ?_)
 | (with_reducible refine awp_regT (by kernel_rfl) ?_; intro K hK)
 | (with_reducible refine a_cond (ht := ?_) (hf := ?_) <;> intro hb <;> (try simp at hb) <;> (try contradiction) <;> (try subst hb) <;> (try omega))
 | (with_reducible first | refine a_move (hr:=?_) | refine a_assign (hr:=?_) | refine a_remU (hr:=?_) | refine a_quoU (hr:=?_) | refine a_bin (hr:=?_) | refine a_sliceArr (hr:=?_) | refine a_sliceS (hr:=?_) | refine a_sliceR (hr:=?_))
 | fail)
    (refine zzr hQ ?_)
    exact zzd
end Go.Proofs.YtjbbnollidcagaaDoor.Asl

