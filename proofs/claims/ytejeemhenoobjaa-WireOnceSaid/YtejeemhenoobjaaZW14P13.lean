/- Part 13 of what the row leans on: abstract values and states, their rules, and the contracts of the functions. -/
import Derived.Test.YtejeemhenoobjaaZW14P12
namespace Go.Proofs.Ytejeemhenoobjaa.Asl
open Go Go.RowKit
set_option linter.unusedVariables false
set_option linter.unusedSimpArgs false
set_option maxRecDepth 100000
set_option maxHeartbeats 4000000
def okNd (n : NodeV) : Prop := argN n = false ∧ longN n = false
def okFl (f : FlowV) : Prop := argF f = false ∧ longF f = false
theorem bit_dec (b : Bool) : b = decide (bitI b = 1) := by cases b <;> rfl
theorem bit_rng (b : Bool) : 0 ≤ bitI b ∧ bitI b ≤ 1 := by cases b <;> decide
theorem okNd_iff {n : NodeV} : okNd n ↔ okN (n, bitI n.st) := by
  unfold okNd okN argN longN
  have := bit_rng n.st
  simp only [Bool.or_eq_false_iff, decide_eq_false_iff_not]
  constructor
  · rintro ⟨⟨⟨a, b⟩, c⟩, ⟨⟨d, e⟩, f⟩, g⟩
    refine ⟨by omega, by omega, by omega, by omega, by omega, by omega, by omega, by omega, by omega⟩
  · rintro ⟨a, b, c, d, e, f, g, h⟩
    refine ⟨⟨⟨by omega, by omega⟩, by omega⟩, ⟨⟨by omega, by omega⟩, by omega⟩, by omega⟩
theorem okFl_iff {f : FlowV} : okFl f ↔ okF (f, bitI f.el) := by
  unfold okFl okF argF longF
  have := bit_rng f.el
  simp only [Bool.or_eq_false_iff, decide_eq_false_iff_not]
  constructor
  · rintro ⟨⟨a, b⟩, c⟩
    refine ⟨by omega, by omega, by omega, by omega, by omega⟩
  · rintro ⟨a, b, c, d⟩
    refine ⟨⟨by omega, by omega⟩, by omega⟩
theorem nodeL_E {n : NodeV} (h : okNd n) : nodeL n = nodeE (n, bitI n.st) := by
  have := (okNd_iff.1 h).1
  unfold nodeL nodeE
  simp only at this ⊢
  rw [show n.kd % 256 = n.kd by omega]
theorem flowL_E (f : FlowV) : flowL f = flowE (f, bitI f.el) := rfl
theorem node_put {n : NodeV} (h : okNd n) (r : List Int) : nodeS (nodeL n ++ r, 0) = (n, bitI n.st, (r, 0)) := by
  have := codN.put (n, bitI n.st) r ⟨okNd_iff.1 h, bit_dec _⟩
  rw [← nodeL_E h] at this
  simp only [Prod.mk.injEq] at this
  obtain ⟨⟨h1, h2⟩, h3⟩ := this
  exact Prod.ext h1 (Prod.ext h2 h3)
theorem flow_put {f : FlowV} (h : okFl f) (r : List Int) : flowS (flowL f ++ r, 0) = (f, bitI f.el, (r, 0)) := by
  have := codF.put (f, bitI f.el) r ⟨okFl_iff.1 h, bit_dec _⟩
  rw [← flowL_E] at this
  simp only [Prod.mk.injEq] at this
  obtain ⟨⟨h1, h2⟩, h3⟩ := this
  exact Prod.ext h1 (Prod.ext h2 h3)
theorem wr_bit (b : Bool) : wrE (bitI b) 0 = 0 := by cases b <;> rfl
theorem nodes_put : ∀ (ns : List NodeV) (i : Nat) (out : List NodeV) (r : List Int), (∀ n ∈ ns, okNd n) → nodesS ns.length i (ns.flatMap nodeL ++ r, 0) out = (out ++ ns, none, (r, 0))
  | [], i, out, r, _ => by simp [nodesS]
  | n :: ns, i, out, r, h => by
    rw [List.length_cons, nodesS, List.flatMap_cons, List.append_assoc, node_put (h n List.mem_cons_self)]
    simp only
    rw [wr_bit, if_neg (by decide), nodes_put ns _ _ r fun m hm => h m (List.mem_cons_of_mem _ hm)]
    simp
theorem flows_put : ∀ (fs : List FlowV) (i : Nat) (out : List FlowV) (r : List Int), (∀ f ∈ fs, okFl f) → flowsS fs.length i (fs.flatMap flowL ++ r, 0) out = (out ++ fs, none, (r, 0))
  | [], i, out, r, _ => by simp [flowsS]
  | f :: fs, i, out, r, h => by
    rw [List.length_cons, flowsS, List.flatMap_cons, List.append_assoc, flow_put (h f List.mem_cons_self)]
    simp only
    rw [wr_bit, if_neg (by decide), flows_put fs _ _ r fun m hm => h m (List.mem_cons_of_mem _ hm)]
    simp
theorem wr_0 {c e : Int} (h : wrE c e = 0) : e = 0 ∧ c ≤ 1 := by
  unfold wrE at h
  by_cases he : e = 0
  · refine ⟨he, ?_⟩
    rw [if_neg (by simp [he])] at h
    by_cases hc : 1 < c
    · rw [if_pos hc] at h; cases h
    · omega
  · rw [if_pos he] at h; exact absurd h he
theorem node_form {l : List Int} {e : Int} (hB : IsB l) (h : wrE (nodeS (l, e)).2.1 (nodeS (l, e)).2.2.2 = 0) : e = 0 ∧ l = nodeL (nodeS (l, e)).1 ++ (nodeS (l, e)).2.2.1 ∧ okNd (nodeS (l, e)).1 ∧ (nodeS (l, e)).2.2.2 = 0 ∧ IsB (nodeS (l, e)).2.2.1 := by
  obtain ⟨h1, h2⟩ := wr_0 h
  obtain ⟨k1, k2, k3, k4⟩ := codN.form l e hB h1
  have kB := codN.left (l := l) (e := e) hB h1
  simp only at k2 k3 k4 kB
  have hb : (nodeS (l, e)).2.1 = bitI (nodeS (l, e)).1.st := by
    have h0 := k3.2.2.2.2.2.2.2
    simp only at h0
    rw [k4]
    by_cases hc : (nodeS (l, e)).2.1 = 1
    · rw [decide_eq_true hc, hc]; rfl
    · rw [decide_eq_false hc]
      show _ = (0 : Int)
      omega
  have hok : okNd (nodeS (l, e)).1 := okNd_iff.2 (by rw [← hb]; exact k3)
  refine ⟨k1, ?_, hok, h1, kB⟩
  rw [nodeL_E hok, ← hb]; exact k2
theorem flow_form {l : List Int} {e : Int} (hB : IsB l) (h : wrE (flowS (l, e)).2.1 (flowS (l, e)).2.2.2 = 0) : e = 0 ∧ l = flowL (flowS (l, e)).1 ++ (flowS (l, e)).2.2.1 ∧ okFl (flowS (l, e)).1 ∧ (flowS (l, e)).2.2.2 = 0 ∧ IsB (flowS (l, e)).2.2.1 := by
  obtain ⟨h1, h2⟩ := wr_0 h
  obtain ⟨k1, k2, k3, k4⟩ := codF.form l e hB h1
  have kB := codF.left (l := l) (e := e) hB h1
  simp only at k2 k3 k4 kB
  have hb : (flowS (l, e)).2.1 = bitI (flowS (l, e)).1.el := by
    have h0 := k3.2.2.2
    simp only at h0
    rw [k4]
    by_cases hc : (flowS (l, e)).2.1 = 1
    · rw [decide_eq_true hc, hc]; rfl
    · rw [decide_eq_false hc]
      show _ = (0 : Int)
      omega
  have hok : okFl (flowS (l, e)).1 := okFl_iff.2 (by rw [← hb]; exact k3)
  refine ⟨k1, ?_, hok, h1, kB⟩
  rw [flowL_E, ← hb]; exact k2
theorem nodes_form : ∀ (k i : Nat) (l : List Int) (out o : List NodeV) (s : RSt), IsB l → nodesS k i (l, 0) out = (o, none, s) → ∃ ns, o = out ++ ns ∧ ns.length = k ∧ l = ns.flatMap nodeL ++ s.1 ∧ (∀ n ∈ ns, okNd n) ∧ s.2 = 0 ∧ IsB s.1
  | 0, i, l, out, o, s, hB, h => by
    simp only [nodesS, Prod.mk.injEq] at h
    obtain ⟨rfl, _, rfl⟩ := h
    exact ⟨[], by simp, rfl, by simp, by simp, rfl, hB⟩
  | k + 1, i, l, out, o, s, hB, h => by
    rw [nodesS] at h
    by_cases hw : wrE (nodeS (l, 0)).2.1 (nodeS (l, 0)).2.2.2 = 0
    · rw [if_neg (by rw [hw]; decide)] at h
      obtain ⟨_, f2, f3, f4, f5⟩ := node_form hB hw
      rw [show (nodeS (l, 0)).2.2 = ((nodeS (l, 0)).2.2.1, 0) from Prod.ext rfl f4] at h
      obtain ⟨ns, g1, g2, g3, g4, g5, g6⟩ := nodes_form k _ _ _ _ _ f5 h
      refine ⟨(nodeS (l, 0)).1 :: ns, by rw [g1]; simp, by simp [g2], ?_, ?_, g5, g6⟩
      · rw [List.flatMap_cons, List.append_assoc, ← g3]; exact f2
      · intro n hn
        rcases List.mem_cons.1 hn with rfl | hn
        · exact f3
        · exact g4 n hn
    · rw [if_pos hw] at h
      simp at h
theorem flows_form : ∀ (k i : Nat) (l : List Int) (out o : List FlowV) (s : RSt), IsB l → flowsS k i (l, 0) out = (o, none, s) → ∃ fs, o = out ++ fs ∧ fs.length = k ∧ l = fs.flatMap flowL ++ s.1 ∧ (∀ f ∈ fs, okFl f) ∧ s.2 = 0 ∧ IsB s.1
  | 0, i, l, out, o, s, hB, h => by
    simp only [flowsS, Prod.mk.injEq] at h
    obtain ⟨rfl, _, rfl⟩ := h
    exact ⟨[], by simp, rfl, by simp, by simp, rfl, hB⟩
  | k + 1, i, l, out, o, s, hB, h => by
    rw [flowsS] at h
    by_cases hw : wrE (flowS (l, 0)).2.1 (flowS (l, 0)).2.2.2 = 0
    · rw [if_neg (by rw [hw]; decide)] at h
      obtain ⟨_, f2, f3, f4, f5⟩ := flow_form hB hw
      rw [show (flowS (l, 0)).2.2 = ((flowS (l, 0)).2.2.1, 0) from Prod.ext rfl f4] at h
      obtain ⟨fs, g1, g2, g3, g4, g5, g6⟩ := flows_form k _ _ _ _ _ f5 h
      refine ⟨(flowS (l, 0)).1 :: fs, by rw [g1]; simp, by simp [g2], ?_, ?_, g5, g6⟩
      · rw [List.flatMap_cons, List.append_assoc, ← g3]; exact f2
      · intro n hn
        rcases List.mem_cons.1 hn with rfl | hn
        · exact f3
        · exact g4 n hn
    · rw [if_pos hw] at h
      simp at h
/-- A process that may be put. -/
structure OkD (d : DefV) : Prop where
  nm : d.nm.size ≤ 128
  ln : d.ns.length ≤ 40
  lf : d.fs.length ≤ 80
  n : ∀ n ∈ d.ns, okNd n
  f : ∀ f ∈ d.fs, okFl f
theorem put_ok {d : DefV} (h : (putD d).2 = 0) : OkD d ∧ (putD d).1 = defL d := by
  unfold putD at h ⊢
  by_cases h1 : (40 < d.ns.length ∨ 80 < d.fs.length) ∨ longD d = true
  · rw [if_pos h1] at h; cases h
  rw [if_neg h1] at h ⊢
  by_cases h2 : argD d = true
  · rw [if_pos h2] at h; cases h
  rw [if_neg h2]
  have h3 : longD d = false := by cases hh : longD d with | false => rfl | true => exact absurd (.inr hh) h1
  have h4 : argD d = false := by cases hh : argD d with | false => rfl | true => exact absurd hh h2
  unfold longD at h3
  unfold argD at h4
  simp only [Bool.or_eq_false_iff, decide_eq_false_iff_not, List.any_eq_false] at h3 h4
  refine ⟨⟨by omega, by omega, by omega, fun n hn => ⟨?_, ?_⟩, fun f hf => ⟨?_, ?_⟩⟩, rfl⟩
  · simpa using h4.1 n hn
  · simpa using h3.1.2 n hn
  · simpa using h4.2 f hf
  · simpa using h3.2 f hf
theorem ok_put {d : DefV} (h : OkD d) : putD d = (defL d, 0) := by
  have h3 : longD d = false := by
    unfold longD
    simp only [Bool.or_eq_false_iff, decide_eq_false_iff_not, List.any_eq_false]
    exact ⟨⟨by have := h.nm; omega, fun n hn => by simp [(h.n n hn).2]⟩, fun f hf => by simp [(h.f f hf).2]⟩
  have h4 : argD d = false := by
    unfold argD
    simp only [Bool.or_eq_false_iff, List.any_eq_false]
    exact ⟨fun n hn => by simp [(h.n n hn).1], fun f hf => by simp [(h.f f hf).1]⟩
  unfold putD
  have := h.ln
  have := h.lf
  rw [if_neg (by rw [h3]; rintro ((g | g) | g)
                 · omega
                 · omega
                 · cases g), if_neg (by rw [h4]; decide)]
theorem head_magic (r : List Int) : headE (magicL ++ r) = 0 := by simp [magicL, headE]
theorem take_more {d : DefV} (h : OkD d) (more : List Int) : takeD (defL d ++ more) = if more = [] then (d, .ok) else (DefV.z, .rest) := by
  have e : defL d ++ more = magicL ++ (txtL d.nm ++ (enc 9 d.ns.length ++ (d.ns.flatMap nodeL ++ (enc 9 d.fs.length ++ (d.fs.flatMap flowL ++ more))))) := by
    unfold defL
    simp only [List.append_assoc]
  rw [e]
  unfold takeD
  have hd3 : ∀ r : List Int, (magicL ++ r).drop 3 = r := fun r => rfl
  have hln := h.ln
  have hlf := h.lf
  have hnm := h.nm
  rw [head_magic, if_neg (by decide), hd3, sT_put (by omega) (by omega), if_neg (fun h => h rfl)]
  simp only
  rw [sU_put (by omega) (by omega) (by omega), if_neg (fun h => h rfl)]
  simp only [Int.toNat_natCast]
  rw [nodes_put _ _ _ _ h.n]
  simp only
  rw [sU_put (by omega) (by omega) (by omega), if_neg (fun h => h rfl)]
  simp only [Int.toNat_natCast]
  rw [flows_put _ _ _ _ h.f]
  simp only [List.nil_append]
theorem head_0 {l : List Int} (h : headE l = 0) : l = magicL ++ l.drop 3 := by
  rcases l with _ | ⟨a, _ | ⟨b, _ | ⟨c, r⟩⟩⟩
  · cases h
  · simp only [headE] at h; split at h <;> cases h
  · simp only [headE] at h; split at h <;> cases h
  · simp only [headE] at h
    split at h
    · rename_i g
      obtain ⟨rfl, rfl, rfl⟩ := g
      rfl
    · cases h
theorem take_form {l : List Int} (hB : IsB l) {d : DefV} (h : takeD l = (d, .ok)) : OkD d ∧ l = defL d := by
  unfold takeD at h
  by_cases h0 : ¬ (headE l = 0)
  · rw [if_pos h0] at h; simp at h
  have h0 : headE l = 0 := Classical.not_not.1 h0
  rw [if_neg (by rw [h0]; decide)] at h
  have hB3 : IsB (l.drop 3) := isB_drop hB 3
  have l0 := head_0 h0
  by_cases h1 : ¬ ((sT 128 (l.drop 3, 0)).2.2 = 0)
  · rw [if_pos h1] at h; simp at h
  have h1 : (sT 128 (l.drop 3, 0)).2.2 = 0 := Classical.not_not.1 h1
  rw [if_neg (by rw [h1]; decide)] at h
  obtain ⟨_, l1, d1⟩ := (codT (most := 128) (by decide) (by decide)).form _ _ hB3 h1
  have hB4 := (codT (most := 128) (by decide) (by decide)).left hB3 h1
  obtain ⟨⟨nm, r1, e1⟩, hs1⟩ : ∃ s, sT 128 (l.drop 3, 0) = s := ⟨_, rfl⟩
  rw [hs1] at h h1 l1 d1 hB4
  simp only at h h1 l1 d1 hB4
  subst h1
  by_cases h2 : ¬ ((sU 40 (r1, 0)).2.2 = 0)
  · rw [if_pos h2] at h; simp at h
  have h2 : (sU 40 (r1, 0)).2.2 = 0 := Classical.not_not.1 h2
  rw [if_neg (by rw [h2]; decide)] at h
  obtain ⟨_, l2, d2⟩ := (codU (most := 40) (by decide)).form _ _ hB4 h2
  have hB5 := (codU (most := 40) (by decide)).left hB4 h2
  obtain ⟨⟨k, r2, e2⟩, hs2⟩ : ∃ s, sU 40 (r1, 0) = s := ⟨_, rfl⟩
  rw [hs2] at h h2 l2 d2 hB5
  simp only at h h2 l2 d2 hB5
  subst h2
  obtain ⟨⟨o, w, s3⟩, hn⟩ : ∃ x, nodesS k.toNat 0 (r2, 0) [] = x := ⟨_, rfl⟩
  rw [hn] at h
  cases w with
  | some p =>
    obtain ⟨i, c⟩ := p
    simp at h
  | none =>
    simp only at h
    obtain ⟨ns, f1, f2, f3, f4, f5, f6⟩ := nodes_form _ _ _ _ _ _ hB5 hn
    obtain ⟨r3, e3⟩ := s3
    simp only at f3 f5 f6 h
    subst f5
    by_cases h4 : ¬ ((sU 80 (r3, 0)).2.2 = 0)
    · rw [if_pos h4] at h; simp at h
    have h4 : (sU 80 (r3, 0)).2.2 = 0 := Classical.not_not.1 h4
    rw [if_neg (by rw [h4]; decide)] at h
    obtain ⟨_, l4, d4⟩ := (codU (most := 80) (by decide)).form _ _ f6 h4
    have hB6 := (codU (most := 80) (by decide)).left f6 h4
    obtain ⟨⟨k2, r4, e4⟩, hs4⟩ : ∃ s, sU 80 (r3, 0) = s := ⟨_, rfl⟩
    rw [hs4] at h h4 l4 d4 hB6
    simp only at h h4 l4 d4 hB6
    subst h4
    obtain ⟨⟨o2, w2, s5⟩, hf⟩ : ∃ x, flowsS k2.toNat 0 (r4, 0) [] = x := ⟨_, rfl⟩
    rw [hf] at h
    cases w2 with
    | some p =>
      obtain ⟨i, c⟩ := p
      simp at h
    | none =>
      simp only at h
      obtain ⟨fs, p1, p2, p3, p4, p5, p6⟩ := flows_form _ _ _ _ _ _ hB6 hf
      by_cases h6 : ¬ (s5.1 = [])
      · rw [if_neg h6] at h; simp at h
      have h6 : s5.1 = [] := Classical.not_not.1 h6
      rw [if_pos h6] at h
      simp only [Prod.mk.injEq, and_true] at h
      subst h
      rw [h6, List.append_nil] at p3
      simp only [List.nil_append] at f1 p1
      subst f1 p1
      refine ⟨⟨by simp only; omega, by simp only; omega, by simp only; omega, f4, p4⟩, ?_⟩
      have hk : k = (o.length : Int) := by omega
      have hk2 : k2 = (o2.length : Int) := by omega
      rw [l0, l1, l2, f3, l4, p3, hk, hk2]
      rfl
end Go.Proofs.Ytejeemhenoobjaa.Asl

namespace Go.Proofs.Ytejeemhenoobjaa.Asl
open Go Go.RowKit
set_option linter.unusedVariables false
set_option linter.unusedSimpArgs false
variable {P : Program} {nt : Nat} {C : Cx} {σ : St} {Q : Exit → St → Prop} {e : Nat → AV} {h h' : Hp}
/-- What a run may have changed, but for what names stand for. -/
structure ExtG (C C' : Cx) : Prop where
  os : C'.W.os = C.W.os
  tape : C'.W.tape = C.W.tape
  output : C'.W.output = C.W.output
  size : C.W.heap.size ≤ C'.W.heap.size
  F : ∀ b, C.F b → C'.F b
  heap : ∀ b, b < C.W.heap.size → ¬ Own C b → C'.W.heap[b]? = C.W.heap[b]?
  newF : ∀ b, C'.F b → C.F b ∨ Own C b ∨ C.W.heap.size ≤ b
  newO : ∀ b, Own C' b → Own C b ∨ C.W.heap.size ≤ b
theorem Ext.g {C C' : Cx} (x : Ext C C') : ExtG C C' := ⟨x.os, x.tape, x.output, x.size, x.F, x.heap, x.newF, x.newO⟩
theorem ExtG.trans {A B C : Cx} (h : ExtG A B) (k : ExtG B C) : ExtG A C where
  os := k.os.trans h.os
  tape := k.tape.trans h.tape
  output := k.output.trans h.output
  size := Nat.le_trans h.size k.size
  F b x := k.F b (h.F b x)
  heap b hb hn := (k.heap b (Nat.lt_of_lt_of_le hb h.size) (fun ho => (h.newO b ho).elim hn (fun x => by omega))).trans (h.heap b hb hn)
  newF b x := by
    rcases k.newF b x with y | y | y
    · exact h.newF b y
    · exact .inr (h.newO b y)
    · exact .inr (.inr (Nat.le_trans h.size y))
  newO b x := by
    rcases k.newO b x with y | y
    · exact h.newO b y
    · exact .inr (Nat.le_trans h.size y)
/-- A contract: what has the name 200000 may be another row then. -/
def CallG (P : Program) (f : FuncId) (args : List AV) (h : Hp) (r : AV) (h' : Hp) : Prop :=
  ∀ C vs, HOk C h → RVs C args vs → Calls P f vs.toArray C.W fun e W' => ∃ v C', e = .returned v ∧ C'.W = W' ∧ ExtG C C' ∧ HOk C' h' ∧ RV C' r v ∧ ∀ id p, id ≠ 200000 → C.ι id = some p → C'.ι id = some p
def FinG (h : Hp) (r : AV) (h' : Hp) (r' : AV) : Prop := ∀ C v, HOk C h → RV C r v → ∃ C2, C2.W = C.W ∧ ExtG C C2 ∧ HOk C2 h' ∧ RV C2 r' v ∧ ∀ id p, 100000 ≤ id → id ≠ 200000 → C.ι id = some p → C2.ι id = some p
theorem Fin.toG {r r' : AV} (hf : Fin h r h' r') : FinG h r h' r' := fun C v hh hv => by
  obtain ⟨C2, h1, h2, h3, h4⟩ := hf.use hh hv
  exact ⟨C2, h1, h2.g, h3, h4, fun id p hi _ hp => h2.ι id p hi hp⟩
theorem FinG.trans {h1 h2 h3 : Hp} {a b c : AV} (x : FinG h1 a h2 b) (y : FinG h2 b h3 c) : FinG h1 a h3 c := fun C v hh hv => by
  obtain ⟨C2, e1, e2, e3, e4, e5⟩ := x C v hh hv
  obtain ⟨C3, f1, f2, f3, f4, f5⟩ := y C2 v e3 e4
  exact ⟨C3, f1.trans e1, e2.trans f2, f3, f4, fun id p hi hn hp => f5 id p hi hn (e5 id p hi hn hp)⟩
/-- A function's contract. -/
theorem calls_goG {f : FuncId} {fn : Func} {c : Code} {xs : List AV} {rs : List ResultVar} {r : AV} (hf : P.funcs[f]? = some fn) (hb : fn.body = some c) (hnt : fn.ntmps = nt) (hrs : fn.results.toList = rs) (hxs : xs.length ≤ nt) (hbig : ∀ id, (h id).isSome = true → 100000 ≤ id)
    (hw : ∀ Q : Exit → St → Prop, (∀ σ ex ys r0, (ex = .normal ∨ ex = .ret) → IsO (resAV P σ.env σ.heap rs) ys → Is (outOf ys) r0 → FinG σ.heap r0 h' r → Q ex σ) → (∀ σ σ2 ex, Weak σ σ2 → Q ex σ2 → Q ex σ) → AWP P nt c Q ⟨envOf xs, h⟩) : CallG P f xs h r h' := by
  intro C vs hC hvs
  refine calls_of_wp hf hb ?_
  have hl := hvs.len
  have hs : Sat nt C ⟨envOf xs, h⟩ { tmps := vs.toArray ++ Array.replicate (fn.ntmps - vs.toArray.size) undef, defers := [] } := by
    refine ⟨rfl, by simp [hnt]; omega, fun t => ?_, hC⟩
    simp only [envOf, Array.getD_eq_getD_getElem?, List.getD_eq_getElem?_getD]
    by_cases ht : t < xs.length
    · obtain ⟨v, h1, h2⟩ := hvs.at (List.getElem?_eq_getElem ht)
      rw [Array.getElem?_append_left (by simp; omega), List.getElem?_toArray, h1, List.getElem?_eq_getElem ht]
      exact h2
    · rw [List.getElem?_eq_none (by omega)]
      rw [Array.getElem?_append_right (by simp; omega), Array.getElem?_replicate]
      split <;> exact .raw _
  have hw1 := hw (fun ex σ' => (ex = .normal ∨ ex = .ret) ∧ ∃ σ2 ys, Weak σ' σ2 ∧ resAV P σ2.env σ2.heap fn.results.toList = some ys ∧ FinG σ2.heap (outOf ys) h' r) (fun σ ex ys r0 h1 h2 h3 h4 => ⟨h1, σ, ys, Weak.refl _, by rw [hrs]; exact h2, by rw [h3]; exact h4⟩) (fun σ σ2 ex h1 ⟨h2, σ3, ys, h3, h4⟩ => ⟨h2, σ3, ys, h1.trans h3, h4⟩)
  refine wp_mono (hw1 C C _ (.refl C) hs) ?_
  rintro ex a' W' ⟨σ', C', rfl, ⟨he, σ2, ys, hwk, hres, hfin⟩, ex, sat⟩
  obtain ⟨C2, hW, ex2, sat2⟩ := hwk nt C' a' sat
  obtain ⟨v, hr, hv⟩ := results_run sat2 hres
  rw [hW] at hr
  obtain ⟨C3, hW3, ex3, hh3, hv3, hk3⟩ := hfin C2 v sat2.heap hv
  have exx := ex.trans ex2
  have hkeep : ∀ id p, id ≠ 200000 → C.ι id = some p → C3.ι id = some p := fun id p hne hp => by
    have hi : 100000 ≤ id := hbig id (by
      cases hi : h id with
      | none => rw [hC.no id hi] at hp; cases hp
      | some _ => rfl)
    exact hk3 id p hi hne (exx.ι id p hi hp)
  rcases he with rfl | rfl <;> exact ⟨sat.defers, v, hr, v, C3, rfl, hW3.trans hW, exx.g.trans ex3, hh3, hv3, hkeep⟩
/-- Fewer objects; the row of the name 200000 may be among those that are dropped. -/
theorem FinG.sub {r : AV} (hsub : ∀ id ob, h' id = some ob → h id = some ob ∧ ob.within h' = true) (hbig : ∀ id, 100000 ≤ id → id ≠ 200000 → h' id = none → h id = none) (hr : Is (r.within h') true) : FinG h r h' r := fun C v hh hv => by
  refine ⟨subC C h' C.O, rfl, ⟨rfl, rfl, rfl, Nat.le_refl _, fun _ x => x, fun _ _ _ => rfl, fun _ x => .inl x, fun _ x => .inl x⟩, ⟨fun id ob hob => ?_, fun id hid => ?_, fun i j b T U o q h1 h2 h3 h4 h5 h6 => ?_, hh.apart, hh.lt, hh.olt, hh.gl⟩, hv.sub hr, fun id p hi hne hp => ?_⟩
  · obtain ⟨h1, h2⟩ := hsub id ob hob
    have hs := hh.at_ id ob h1
    have hi : ∀ p, C.ι id = some p → (subC C h' C.O).ι id = some p := fun p hp => by
      have hob : h' id = some ob := hob
      simp only [subC, hob, Option.isSome_some, if_true]; exact hp
    cases ob with
    | box x =>
      obtain ⟨b, T, cs, t, q1, q2, q3, q4⟩ := hs
      exact ⟨b, T, cs, t, hi _ q1, q2, q3, q4.sub h2⟩
    | arr sz l =>
      obtain ⟨b, T, cs, t, fr, c1, c2, q1, q2, q3, q4, q5, q6, q7⟩ := hs
      exact ⟨b, T, cs, t, fr, c1, c2, hi _ q1, q2, q3, q4, q5, q6.sub h2, q7⟩
    | fz sz l =>
      obtain ⟨b, T, c1, q1, q2, q3, q4, q5⟩ := hs
      exact ⟨b, T, c1, hi _ q1, q2, q3, q4, q5⟩
    | dead =>
      obtain ⟨b, T, q1⟩ := hs
      exact ⟨b, T, hi _ q1⟩
  · simp [subC, hid]
  · have g : ∀ k p, (subC C h' C.O).ι k = some p → C.ι k = some p := fun k p hk => by
      simp only [subC] at hk
      split at hk
      · exact hk
      · cases hk
    exact hh.inj i j b T U o q (hsub i o h1).1 h2 (hsub j q h3).1 h4 (g _ _ h5) (g _ _ h6)
  · simp only [subC]
    split
    · exact hp
    · rename_i hn
      have := hh.no id (hbig id hi hne (by simpa using hn))
      rw [this] at hp; cases hp
/-- The row gets the name 200000 (again). -/
theorem FinG.ren {r : AV} (n : Nat) (hn : n < 100000) : FinG h r (renH (sw n 200000) (sw n 200000) h) (r.ren (sw n 200000)) := fun C v hh hv =>
  ⟨renC C (sw n 200000), rfl, ⟨rfl, rfl, rfl, Nat.le_refl _, fun _ x => x, fun _ _ _ => rfl, fun _ x => .inl x, fun _ x => .inl x⟩, hh.ren (sw_sw n 200000) (sw_sw n 200000), hv.ren (sw_sw n 200000), fun id p hi hne hp => by
    simp only [renC, sw]
    rw [if_neg (by omega), if_neg hne]
    exact hp⟩
/-- The row k, dead now, if there was one. -/
def killH2 (k : Nat) (l : List AV) : Hp := fun id => if id = k then (if l = [] then none else some .dead) else none
def rH (k sz : Nat) (l : List AV) (X : AV) : Hp := setH (ohp k sz l noHeap) 100001 (.box X)
/-- The variable, and its row, wherever that lies now. -/
theorem FinG.row {n sz : Nat} {l : List AV} {X X' r : AV} (hX : IsO (h 100001) (.box X)) (hl : ¬ l = [] → h n = some (.arr sz l)) (hn : n < 100000) (hln : Is (AV.noids l) true) (hXw : Is (X.within (setH (ohp n sz l noHeap) 100001 (.box X))) true) (hX' : Is (X.ren (sw n 200000)) X') (hr : Is r.noid true) (hb : ∀ id, 100000 ≤ id → id ≠ 200000 → id ≠ 100001 → h id = none) : FinG h r (rH 200000 sz l X') r := by
  have h1 : FinG h r (setH (ohp n sz l noHeap) 100001 (.box X)) r := by
    refine FinG.sub (fun id ob hid => ?_) (fun id h1 h2 h3 => ?_) ((noid_withins _).1 _ hr)
    · simp only [setH_at] at hid
      split at hid
      · rename_i e1; subst e1; cases hid
        exact ⟨hX, hXw⟩
      · simp only [ohp_at, noHeap_at] at hid
        split at hid
        · rename_i e1
          split at hid
          · cases hid
          · rename_i e2; cases hid
            exact ⟨by rw [e1]; exact hl e2, (noid_withins _).2 _ hln⟩
        · cases hid
    · simp only [setH_at, ohp_at, noHeap_at] at h3
      by_cases e1 : id = 100001
      · rw [if_pos e1] at h3; cases h3
      · exact hb id h1 h2 e1
  have h2 := FinG.ren (h := setH (ohp n sz l noHeap) 100001 (.box X)) (r := r) n hn
  rw [noid_ren.1 _ hr] at h2
  have e1 : renH (sw n 200000) (sw n 200000) (setH (ohp n sz l noHeap) 100001 (.box X)) = rH 200000 sz l X' := by
    rw [renH_set]
    have e2 : sw n 200000 100001 = 100001 := by unfold sw; rw [if_neg (by omega), if_neg (by decide)]
    have e3 : renH (sw n 200000) (sw n 200000) (ohp n sz l noHeap) = ohp 200000 sz l noHeap := by
      funext i
      simp only [renH, ohp_at, noHeap_at]
      by_cases hi : i = 200000
      · subst hi
        rw [if_pos (by simp [sw]), if_pos rfl]
        split
        · rfl
        · simp only [Option.map_some, Ob.ren, noid_ren.2 _ hln]
      · rw [if_neg (by
          unfold sw
          by_cases h1 : i = n
          · rw [if_pos h1]; omega
          · rw [if_neg h1]; split <;> omega), if_neg hi]
        rfl
    rw [e2, e3]
    have e4 : (Ob.box X).ren (sw n 200000) = .box X' := by
      show Ob.box (X.ren _) = _
      rw [hX']
    rw [e4]; rfl
  rw [e1] at h2
  exact h1.trans h2
/-- For a caller: the row lies elsewhere, the old one is dead. -/
def gH (k n sz : Nat) (l l' : List AV) (X : AV) : Hp := setH (ohp n sz l' (killH2 k l)) 100001 (.box X)
theorem CallG.toD {f : FuncId} {xs l l' : List AV} {sz n : Nat} {X X' r : AV} (hn : n < 100000) (hl' : AV.noids l' = true) (hr : r.noid = true) (hc : CallG P f xs (rH 200000 sz l X) r (rH 200000 sz l' X')) : CallD P f xs (rH 200000 sz l X) r (gH 200000 n sz l l' (X'.ren (sw n 200000))) := by
  intro C vs hC hvs
  refine Calls.mono (hc C vs hC hvs) ?_
  rintro en W' ⟨v, C', rfl, rfl, ex, hok, hrv, hk⟩
  have hHn : ∀ (l : List AV) (X : AV), rH 200000 sz l X n = none := fun l X => by
    simp only [rH, setH_at, ohp_at, noHeap_at]
    rw [if_neg (by omega), if_neg (by omega)]
  have hCn : C.ι n = none := hC.no n (hHn l X)
  have hCn' : C'.ι n = none := hok.no n (hHn l' X')
  let C2 : Cx := { W := C'.W, F := C'.F, O := C'.O, ι := fun id => if id = 200000 then C.ι 200000 else C'.ι (sw n 200000 id) }
  have e0 : C2.ι 200000 = C.ι 200000 := by
    show (if (200000 : Nat) = 200000 then C.ι 200000 else C'.ι (sw n 200000 200000)) = C.ι 200000
    rw [if_pos rfl]
  have e1 : ∀ id, id ≠ 200000 → C2.ι id = C'.ι (sw n 200000 id) := fun id h => by
    show (if id = 200000 then C.ι 200000 else C'.ι (sw n 200000 id)) = C'.ι (sw n 200000 id)
    rw [if_neg h]
  have es : ∀ id, id ≠ n → id ≠ 200000 → sw n 200000 id = id := fun id h1 h2 => by unfold sw; rw [if_neg h1, if_neg h2]
  have hrn := hok.ren (sw_sw n 200000) (sw_sw n 200000)
  have u : Up (renC C' (sw n 200000)) C2 := ⟨fun _ h => h, fun _ _ => rfl, fun id p hp => by
    by_cases hi : id = 200000
    · subst hi
      have hp : C'.ι (sw n 200000 200000) = some p := hp
      rw [show sw n 200000 200000 = n by unfold sw; rw [if_neg (by omega), if_pos rfl], hCn'] at hp
      cases hp
    · rw [e1 id hi]; exact hp⟩
  have eH : ∀ id, id ≠ 200000 → gH 200000 n sz l l' (X'.ren (sw n 200000)) id = renH (sw n 200000) (sw n 200000) (rH 200000 sz l' X') id := by
    intro id hi
    by_cases h1 : id = 100001
    · subst h1
      have e2 : sw n 200000 100001 = 100001 := es _ (by omega) (by decide)
      simp only [gH, rH, renH, setH_at, e2, if_true]
      rfl
    · by_cases h2 : id = n
      · subst h2
        have e2 : sw id 200000 id = 200000 := by unfold sw; rw [if_pos rfl]
        have e3 : rH 200000 sz l' X' 200000 = if l' = [] then none else some (.arr sz l') := by
          simp only [rH, setH_at, ohp_at]
          rw [if_neg (by decide), if_pos trivial]
        show gH 200000 id sz l l' _ id = (rH 200000 sz l' X' (sw id 200000 id)).map _
        rw [e2, e3]
        simp only [gH, setH_at, ohp_at]
        rw [if_neg h1, if_pos trivial]
        by_cases h3 : l' = []
        · rw [if_pos h3]; rfl
        · rw [if_neg h3]
          simp only [Option.map_some, Ob.ren, noid_ren.2 _ hl']
      · have e2 : sw n 200000 id = id := es _ h2 hi
        show gH 200000 n sz l l' _ id = (rH 200000 sz l' X' (sw n 200000 id)).map _
        rw [e2]
        simp only [gH, rH, setH_at, ohp_at, killH2, noHeap_at]
        rw [if_neg h1, if_neg h1, if_neg h2, if_neg hi, if_neg hi]
        rfl
  have hd : ∀ ob, gH 200000 n sz l l' (X'.ren (sw n 200000)) 200000 = some ob → ob = .dead ∧ ∃ p, C.ι 200000 = some p := by
    intro ob h
    simp only [gH, setH_at, ohp_at, killH2] at h
    rw [if_neg (by decide), if_neg (by omega), if_pos trivial] at h
    split at h
    · cases h
    · rename_i hl
      cases h
      refine ⟨rfl, ?_⟩
      have h3 : rH 200000 sz l X 200000 = some (.arr sz l) := by
        simp only [rH, setH_at, ohp_at]
        rw [if_neg (by decide), if_pos trivial, if_neg hl]
      obtain ⟨b, T, cs, t, fr, c1, c2, q1, _⟩ := hC.at_ _ _ h3
      exact ⟨_, q1⟩
  refine ⟨v, C2, rfl, rfl, ⟨ex.os, ex.tape, ex.output, ex.size, ex.F, ex.heap, ex.newF, ex.newO, fun id p hi hp => ?_⟩, ⟨fun id ob hid => ?_, fun id hid => ?_, fun i j b T U o q h1 h2 h3 h4 h5 h6 => ?_, hok.apart, hok.lt, hok.olt, hrn.gl.up u⟩, ?_, fun id p hp => ?_⟩
  · by_cases h2 : id = 200000
    · subst h2; rw [e0]; exact hp
    · rw [e1 id h2, es id (by omega) h2]; exact hk id p h2 hp
  · by_cases h2 : id = 200000
    · subst h2
      obtain ⟨rfl, ⟨b, T⟩, hp⟩ := hd ob hid
      exact ⟨b, T, by rw [e0]; exact hp⟩
    · rw [eH id h2] at hid
      exact (hrn.at_ id ob hid).up u fun b T k1 k2 k3 => ⟨k2, rfl⟩
  · by_cases h2 : id = 200000
    · subst h2
      rw [e0]
      refine hC.no _ ?_
      simp only [gH, setH_at, ohp_at, killH2] at hid
      rw [if_neg (by decide), if_neg (by omega), if_pos trivial] at hid
      split at hid
      · rename_i hl
        simp only [rH, setH_at, ohp_at]
        rw [if_neg (by decide), if_pos trivial, if_pos hl]
      · cases hid
    · rw [eH id h2] at hid
      rw [e1 id h2]
      exact hrn.no id hid
  · have hi : i ≠ 200000 := by rintro rfl; obtain ⟨rfl, _⟩ := hd o h1; cases h2
    have hj : j ≠ 200000 := by rintro rfl; obtain ⟨rfl, _⟩ := hd q h3; cases h4
    rw [eH i hi] at h1
    rw [eH j hj] at h3
    rw [e1 i hi] at h5
    rw [e1 j hj] at h6
    exact hrn.inj i j b T U o q h1 h2 h3 h4 h5 h6
  · have := hrv.ren (sw_sw n 200000)
    rw [noid_ren.1 _ hr] at this
    exact this.up u
  · by_cases h2 : id = 200000
    · subst h2; rw [e0]; exact hp
    · have h3 : id ≠ n := by rintro rfl; rw [hCn] at hp; cases hp
      rw [e1 id h2, es id h3 h2]; exact hk id p h2 hp
end Go.Proofs.Ytejeemhenoobjaa.Asl

namespace Go.Proofs.Ytejeemhenoobjaa.Asl
open Go Go.RowKit
set_option linter.unusedVariables false
set_option linter.unusedSimpArgs false
variable {P : Program} {nt : Nat} {C : Cx} {σ : St} {Q : Exit → St → Prop} {e : Nat → AV} {h h' : Hp} {ops : Array Oper} {l : List Oper} {K : (Nat → AV) → Hp → Prop}
/-- Objects set, the first last. -/
def setL : List (Nat × Ob) → Hp → Hp
  | [], h => h
  | (k, o) :: m, h => setH (setL m h) k o
@[simp] theorem setL_nil {h : Hp} : setL [] h = h := rfl
@[simp] theorem setL_cons {k : Nat} {o : Ob} {m : List (Nat × Ob)} {h : Hp} : setL ((k, o) :: m) h = setH (setL m h) k o := rfl
theorem setL_at : ∀ (m : List (Nat × Ob)) (g : Hp) (i : Nat), setL m g i = match hpL m i with | some o => some o | none => g i
  | [], g, i => rfl
  | (k, o) :: m, g, i => by
    simp only [setL, setH, hpL]
    by_cases hi : i = k
    · rw [if_pos hi, if_pos hi]
    · rw [if_neg hi, if_neg hi]; exact setL_at m g i
def renP (a b : Nat) (y : Nat × Ob) : Nat × Ob := (sw a b y.1, y.2.ren (sw a b))
def renL (a b : Nat) (m : List (Nat × Ob)) : List (Nat × Ob) := m.map (renP a b)
theorem renH_hpL (a b : Nat) : ∀ m : List (Nat × Ob), renH (sw a b) (sw a b) (hpL m) = hpL (renL a b m)
  | [] => rfl
  | (k, o) :: m => by
    funext i
    have ih := congrFun (renH_hpL a b m) i
    show (if sw a b i = k then some o else hpL m (sw a b i)).map (Ob.ren (sw a b)) = if i = sw a b k then some (o.ren (sw a b)) else hpL (renL a b m) i
    by_cases hi : i = sw a b k
    · subst hi
      rw [sw_sw, if_pos rfl, if_pos rfl]; rfl
    · rw [if_neg (fun h => hi (by rw [← h, sw_sw])), if_neg hi]; exact ih
theorem w_callM {ty' : TypeId} {pos : String} {af : Array Edge} {dd : Option Tmp} {args : Array Operand} {ats : Array TypeId} {x : Operand} {f : FuncId} {xs ys xs' : List AV} {r r' : AV} {g : Hp} {m0 m0' m m' : List (Nat × Ob)} (p k q : Nat)
    (hp : Is (plainCall P ⟨.value x, args, ats⟩) false) (ha : IsO (argsOf (evE e) x args) (f, xs)) (hf : Is (isFn P f) true) (hfr : Is (frzA h (AV.rowsOf (.agg xs))) g) (hys : Is (AV.deeps g xs) ys)
    (hxs : Is (AV.rens (sw 100001 p) (AV.rens (sw k q) ys)) xs') (hcall : CallD P f xs' (hpL m0) r' (hpL m0')) (hm : Is (renL k q (renL 100001 p m0)) m) (hm' : Is (renL k q (renL 100001 p m0')) m') (hr' : Is ((r'.ren (sw 100001 p)).ren (sw k q)) r)
    (hsub : ∀ y ∈ m, g y.1 = some y.2 ∧ y.2.within (hpL m) = true) (hw : Is (AV.withins (hpL m) ys) true) (hnew : ∀ y ∈ m', (hpL m y.1).isSome = true ∨ g y.1 = none) (hkey : ∀ y ∈ m, (hpL m' y.1).isSome = true) (htg : Is (xs.any (fun y => decide (y.tagP = none))) true)
    (hr : RunK P ops l (putE e dd r) (setL m' g) K) : RunK P ops (⟨dd, .call ⟨.value x, args, ats⟩, ty', pos, af, none⟩ :: l) e h K := by
  have hc := (hcall.sw 100001 p).sw k q
  rw [← hxs, AV.rens_rens (sw_sw _ _), AV.rens_rens (sw_sw _ _), renH_hpL, renH_hpL, renH_hpL, renH_hpL, hm, hm', hr'] at hc
  refine w_callS (hs := hpL m) (hs' := hpL m') (g := g) (ys := ys) hp ha hf hfr hys ?_ hw hc ?_ ?_ ?_ hr
  · intro id ob hid
    exact hsub _ (hpL_mem hid)
  · intro id hid
    cases ho : hpL m' id with
    | none => rw [ho] at hid; cases hid
    | some o => exact hnew _ (hpL_mem ho)
  · funext id
    rw [setL_at]
    simp only [backH]
    by_cases h1 : (hpL m id).isSome = true
    · rw [if_pos h1]
      cases ho : hpL m id with
      | none => rw [ho] at h1; cases h1
      | some o =>
        have := hkey _ (hpL_mem ho)
        simp only at this
        cases ho' : hpL m' id with
        | none => rw [ho'] at this; cases this
        | some o' => rfl
    · rw [if_neg h1]
      cases ho' : hpL m' id with
      | none => rfl
      | some o' => rfl
  · intro ht
    exfalso
    obtain ⟨y, hy, h2⟩ := List.any_eq_true.1 htg
    exact ht y hy (of_decide_eq_true h2)
theorem rH_ne {sz : Nat} {l : List AV} {X : AV} (hl : l ≠ []) : rH 200000 sz l X = hpL [(100001, .box X), (200000, .arr sz l)] := by
  funext i
  simp only [rH, setH_at, ohp_at, noHeap_at, hpL]
  rw [if_neg hl]
theorem hbig_rH {sz : Nat} {l : List AV} {X : AV} : ∀ id, (rH 200000 sz l X id).isSome = true → 100000 ≤ id := fun id h => by
  simp only [rH, setH_at, ohp_at, noHeap_at] at h
  split at h
  · omega
  · split at h
    · omega
    · cases h
/-- A contract whose row may come to lie elsewhere, told with a name for where. -/
theorem CallG.toL {f : FuncId} {xs l l' : List AV} {sz : Nat} {X X' r : AV} (n : Nat) (hl : l ≠ []) (hl' : l' ≠ []) (hc : CallG P f xs (rH 200000 sz l X) r (rH 200000 sz l' X')) (hn : n < 100000 := by decide) (hno : AV.noids l' = true := by simp) (hr : r.noid = true := by simp) {X2 : AV} (hX2 : Is (X'.ren (sw n 200000)) X2 := by simp; exact .r) : CallD P f xs (hpL [(100001, .box X), (200000, .arr sz l)]) r (hpL [(100001, .box X2), (n, .arr sz l'), (200000, .dead)]) := by
  have q := CallG.toD hn hno hr hc
  rw [hX2] at q
  have e1 : rH 200000 sz l X = hpL [(100001, .box X), (200000, .arr sz l)] := by
    funext i
    simp only [rH, setH_at, ohp_at, noHeap_at, hpL]
    rw [if_neg hl]
  have e2 : gH 200000 n sz l l' X2 = hpL [(100001, .box X2), (n, .arr sz l'), (200000, .dead)] := by
    funext i
    simp only [gH, setH_at, ohp_at, killH2, hpL]
    rw [if_neg hl', if_neg hl]
  rw [e1, e2] at q
  exact q
theorem a_callM {ty' : TypeId} {pos : String} {af : Array Edge} {dd : Option Tmp} {args : Array Operand} {ats : Array TypeId} {x : Operand} {f : FuncId} {xs ys xs' : List AV} {r r' : AV} {g : Hp} {m0 m0' m m' : List (Nat × Ob)} (p k q : Nat)
    (hp : Is (plainCall P ⟨.value x, args, ats⟩) false := by (simp; exact .r)) (ha : IsO (argsOf (evE e) x args) (f, xs) := by (simp; exact .r)) (hf : Is (isFn P f) true := by (simp; exact .r)) (hfr : Is (frzA h (AV.rowsOf (.agg xs))) g := by ((try simp); exact .r)) (hys : Is (AV.deeps g xs) ys := by ((try simp); exact .r))
    (hxs : Is (AV.rens (sw 100001 p) (AV.rens (sw k q) ys)) xs' := by ((try simp); exact .r)) (hcall : CallD P f xs' (hpL m0) r' (hpL m0')) (hm : Is (renL k q (renL 100001 p m0)) m := by (simp [renL, renP, Ob.ren]; exact .r)) (hm' : Is (renL k q (renL 100001 p m0')) m' := by (simp [renL, renP, Ob.ren]; exact .r)) (hr' : Is ((r'.ren (sw 100001 p)).ren (sw k q)) r := by (simp; exact .r))
    (hsub : ∀ y ∈ m, g y.1 = some y.2 ∧ y.2.within (hpL m) = true := by first | (simp; done) | fail) (hw : Is (AV.withins (hpL m) ys) true := by (simp; exact .r)) (hnew : ∀ y ∈ m', (hpL m y.1).isSome = true ∨ g y.1 = none := by first | (simp; done) | fail) (hkey : ∀ y ∈ m, (hpL m' y.1).isSome = true := by first | (simp; done) | fail) (htg : Is (xs.any (fun y => decide (y.tagP = none))) true := by (simp; exact .r))
    (hr : RunK P ops l (putE e dd r) (setL m' g) K) : RunK P ops (⟨dd, .call ⟨.value x, args, ats⟩, ty', pos, af, none⟩ :: l) e h K := w_callM p k q hp ha hf hfr hys hxs hcall hm hm' hr' hsub hw hnew hkey htg hr
/-- What is kept of the objects in the end. -/
theorem Fin.keepL {m : List (Nat × Ob)} {r : AV} (hm : ∀ y ∈ m, h y.1 = some y.2 ∧ y.2.within (hpL m) = true := by simp) (hb : BigIn h (hpL m) := by simp) (hr : Is (r.within (hpL m)) true := by simp; exact .r) : Fin h r (hpL m) r := Fin.sub (fun id ob h1 => hm _ (hpL_mem h1)) hb hr
theorem FinG.new {sz n : Nat} {l : List AV} {X X' r : AV} (hX : IsO (h 100001) (.box X) := by simp; exact .r) (hl : ¬ l = [] → h n = some (.arr sz l) := by simp) (hn : n < 100000 := by decide) (hln : Is (AV.noids l) true := by simp; exact .r) (hXw : Is (X.within (setH (ohp n sz l noHeap) 100001 (.box X))) true := by simp; exact .r) (hX' : Is (X.ren (sw n 200000)) X' := by simp; exact .r) (hr : Is r.noid true := by simp; exact .r) (hb : BigIn h (hpL [(100001, .dead), (200000, .dead)]) := by simp) : FinG h r (rH 200000 sz l X') r :=
  FinG.row hX hl hn hln hXw hX' hr fun id h1 h2 h3 => hb id h1 (by simp only [hpL]; rw [if_neg h3, if_neg h2])
theorem FinG.same {sz : Nat} {l : List AV} {X r : AV} (hX : h 100001 = some (.box X) := by simp) (hl : h 200000 = some (.arr sz l) := by simp) (hne : l ≠ [] := by simp) (hln : AV.noids l = true := by simp) (hXw : X.within (rH 200000 sz l X) = true := by simp [rH]) (hr : Is r.noid true := by simp; exact .r) (hb : BigIn h (hpL [(100001, .dead), (200000, .dead)]) := by simp) : FinG h r (rH 200000 sz l X) r := by
  refine Fin.toG (Fin.sub (fun id ob hid => ?_) (fun id h1 h2 => ?_) ((noid_withins _).1 _ hr))
  · simp only [rH, setH_at, ohp_at, noHeap_at] at hid
    split at hid
    · rename_i e; subst e; cases hid
      exact ⟨hX, hXw⟩
    · split at hid
      · rename_i e; subst e
        (first | rw [if_neg hne] at hid | skip); cases hid
        exact ⟨hl, (noid_withins _).2 _ hln⟩
      · cases hid
  · simp only [rH, setH_at, ohp_at, noHeap_at] at h2
    refine hb id h1 ?_
    simp only [hpL]
    split at h2
    · cases h2
    · rename_i e1
      rw [if_neg e1]
      split at h2
      · (first | rw [if_neg hne] at h2 | skip); cases h2
      · rename_i e2; rw [if_neg e2]
end Go.Proofs.Ytejeemhenoobjaa.Asl

