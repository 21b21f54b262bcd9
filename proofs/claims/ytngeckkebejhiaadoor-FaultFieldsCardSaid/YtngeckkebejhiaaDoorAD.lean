/- Parts of a value in memory; loads and stores. -/
import Derived.Test.YtngeckkebejhiaaDoorAC
import Derived.Laws.Sem
import Derived.Laws.World
namespace Go.Proofs.YtngeckkebejhiaaDoor.Asl
open Go Go.RowKit
set_option linter.unusedVariables false

def tyI (P : Program) (t : TypeId) : Option (Nat × Bool) :=
  match P.info? t with
  | none => none
  | some i => match P.underlying t with
    | none => none
    | some (.struct _) => some (i.size, true)
    | some (.array _ _) => some (i.size, true)
    | some _ => some (i.size, false)

theorem tyI_size {P : Program} {t : TypeId} {n : Nat} {ag : Bool} (h : tyI P t = some (n, ag)) (w : World) : (sizeOf t).run P w = .ok n w := by
  unfold tyI at h
  cases hi : P.info? t with
  | none => rw [hi] at h; cases h
  | some i =>
    rw [hi] at h
    have : i.size = n := by
      revert h
      dsimp only
      split <;> intro h <;> simp at h <;> exact h.1
    simp [sizeOf, typeInfo, program, Sem.run, hi, this]
theorem tyI_agg {P : Program} {t : TypeId} {n : Nat} {ag : Bool} (h : tyI P t = some (n, ag)) (w : World) : (isAgg t).run P w = .ok ag w := by
  unfold tyI at h
  cases hi : P.info? t with
  | none => rw [hi] at h; cases h
  | some i =>
    rw [hi] at h
    cases hu : P.underlying t with
    | none => rw [hu] at h; cases h
    | some d =>
      rw [hu] at h
      cases d <;> simp at h <;> simp [isAgg, underlying, program, Sem.run, hu, h.2]

def AV.isAgg : AV → Bool
  | .agg _ => true
  | _ => false
mutual
def AV.get (n : Nat) (ag : Bool) : AV → Nat → Option AV
  | .agg l, off => if off = 0 ∧ AV.sizes l = n ∧ ag = true then some (.agg l) else AV.getL n ag l off
  | x, off => if off = 0 ∧ n = 1 ∧ ag = false then some x else none
def AV.getL (n : Nat) (ag : Bool) : List AV → Nat → Option AV
  | [], _ => none
  | x :: l, off => if off < x.size then AV.get n ag x off else AV.getL n ag l (off - x.size)
end
mutual
def AV.set (n : Nat) (y : AV) : AV → Nat → Option AV
  | .agg l, off => if off = 0 ∧ AV.sizes l = n ∧ y.isAgg = true then some y else (AV.setL n y l off).map .agg
  | x, off => if off = 0 ∧ n = 1 ∧ y.one = true then some y else none
def AV.setL (n : Nat) (y : AV) : List AV → Nat → Option (List AV)
  | [], _ => none
  | x :: l, off => if off < x.size then (AV.set n y x off).map (· :: l) else (AV.setL n y l (off - x.size)).map (x :: ·)
end

theorem RC.ag {C : Cx} {l : List AV} {cs : List Value} (h : RC C (.agg l) cs) : RCs C l cs := by
  cases h with
  | agg h => exact h
  | one h h1 => simp [AV.one] at h1
theorem RC.nag {C : Cx} {x : AV} {cs : List Value} (h : RC C x cs) (hx : x.isAgg = false) : ∃ v, cs = [v] ∧ RV C x v ∧ x.one = true := by
  cases h with
  | agg h => simp [AV.isAgg] at hx
  | one h h1 => exact ⟨_, rfl, h, h1⟩
/-- A value, and its cells. -/
theorem RC.val {C : Cx} {x : AV} {cs : List Value} (h : RC C x cs) : (x.isAgg = true → RV C x (.agg cs.toArray)) ∧ (x.isAgg = false → ∃ v, cs = [v] ∧ RV C x v) := by
  cases h with
  | agg h => exact ⟨fun _ => .agg h, fun h => by simp [AV.isAgg] at h⟩
  | one h h1 => exact ⟨fun ha => by cases x <;> simp [AV.isAgg] at ha; simp [AV.one] at h1, fun _ => ⟨_, rfl, h⟩⟩
theorem oneCell_cells {v : Value} (h : ∀ c, v ≠ .agg c) : v.cells = #[v] := by
  cases v <;> first | rfl | exact absurd rfl (h _)
theorem RV.cells {C : Cx} {x : AV} {v : Value} (h : RV C x v) (hx : x.isAgg = true ∨ x.one = true) : RC C x v.cells.toList := by
  cases h with
  | agg h => exact .agg h
  | any v => simp [AV.isAgg, AV.one] at hx
  | tup h => simp [AV.isAgg, AV.one] at hx
  | raw v =>
    have : (AV.raw v).one = true := by simpa [AV.isAgg] using hx
    rw [oneCell_cells (fun c e => by subst e; simp [AV.one] at this)]
    exact .one (.raw v) this
  | sl0 => exact .one .sl0 rfl
  | sl h hs hF hr hc => exact .one (.sl h hs hF hr hc) rfl
  | fp h hF hr => exact .one (.fp h hF hr) rfl
  | ptr h => exact .one (.ptr h) rfl
  | ep h => exact .one (.ep h) rfl
  | ow h hl => exact .one (.ow h hl) rfl
  | ow0 h hl => exact .one (.ow0 h hl) rfl
  | ifc h => exact .one (.ifc h) rfl
  | fn h1 h2 => exact .one (.fn h1 h2) rfl
/-- Not an aggregate: it may lie in one cell. -/
def Cell (v : Value) : Prop := (∀ c, v ≠ .agg c) ∧ ∀ c, v ≠ .tuple c
mutual
theorem RC.cell {C : Cx} {x : AV} {cs : List Value} (h : RC C x cs) : ∀ v ∈ cs, Cell v :=
  match h with
  | .agg h => h.cell
  | .one h h1 => by
    intro v hv
    rw [List.mem_singleton] at hv; subst hv
    cases h with
    | raw w => exact ⟨fun c e => by subst e; simp [AV.one] at h1, fun c e => by subst e; simp [AV.one] at h1⟩
    | any w => simp [AV.one] at h1
    | agg h => simp [AV.one] at h1
    | tup h => simp [AV.one] at h1
    | _ => exact ⟨fun c e => (by cases e), fun c e => (by cases e)⟩
theorem RCs.cell {C : Cx} {l : List AV} {cs : List Value} (h : RCs C l cs) : ∀ v ∈ cs, Cell v :=
  match h with
  | .nil => by simp
  | .cons h h2 => by
    intro v hv
    rcases List.mem_append.1 hv with hv | hv
    · exact h.cell v hv
    · exact h2.cell v hv
end

theorem get_one {n : Nat} {ag : Bool} {x : AV} {off : Nat} (hx : x.isAgg = false) : AV.get n ag x off = if off = 0 ∧ n = 1 ∧ ag = false then some x else none := by
  cases x <;> first | rfl | simp [AV.isAgg] at hx
theorem set_one {n : Nat} {y x : AV} {off : Nat} (hx : x.isAgg = false) : AV.set n y x off = if off = 0 ∧ n = 1 ∧ y.one = true then some y else none := by
  cases x <;> first | rfl | simp [AV.isAgg] at hx

mutual
theorem RC.get {C : Cx} {n : Nat} {ag : Bool} {y : AV} : ∀ {x : AV} {cs : List Value} {off : Nat}, RC C x cs → AV.get n ag x off = some y →
    ∃ c1 c c2, cs = c1 ++ c ++ c2 ∧ c1.length = off ∧ c.length = n ∧ RC C y c ∧ y.isAgg = ag
  | .agg l, cs, off, h, hg => by
    rw [AV.get] at hg
    split at hg
    · rename_i hc
      cases hg
      obtain ⟨rfl, hn, rfl⟩ := hc
      exact ⟨[], cs, [], by simp, rfl, by rw [h.len]; exact hn, h, rfl⟩
    · exact RCs.getL h.ag hg
  | .any, cs, off, h, hg => one h rfl hg
  | .raw v, cs, off, h, hg => one h rfl hg
  | .tup l, cs, off, h, hg => one h rfl hg
  | .sl sz l, cs, off, h, hg => one h rfl hg
  | .fp x, cs, off, h, hg => one h rfl hg
  | .ptr a b, cs, off, h, hg => one h rfl hg
  | .ep a b c d, cs, off, h, hg => one h rfl hg
  | .ow a b c d, cs, off, h, hg => one h rfl hg
  | .ifc t x, cs, off, h, hg => one h rfl hg
  | .fn f a b, cs, off, h, hg => one h rfl hg
where
  one {C : Cx} {n : Nat} {ag : Bool} {y x : AV} {cs : List Value} {off : Nat} (h : RC C x cs) (hx : x.isAgg = false) (hg : AV.get n ag x off = some y) :
      ∃ c1 c c2, cs = c1 ++ c ++ c2 ∧ c1.length = off ∧ c.length = n ∧ RC C y c ∧ y.isAgg = ag := by
    rw [get_one hx] at hg
    split at hg
    · rename_i hc
      cases hg
      obtain ⟨rfl, rfl, rfl⟩ := hc
      obtain ⟨v, rfl, _⟩ := h.nag hx
      exact ⟨[], [v], [], rfl, rfl, rfl, h, hx⟩
    · cases hg
theorem RCs.getL {C : Cx} {n : Nat} {ag : Bool} {y : AV} : ∀ {l : List AV} {cs : List Value} {off : Nat}, RCs C l cs → AV.getL n ag l off = some y →
    ∃ c1 c c2, cs = c1 ++ c ++ c2 ∧ c1.length = off ∧ c.length = n ∧ RC C y c ∧ y.isAgg = ag
  | [], cs, off, h, hg => by simp [AV.getL] at hg
  | x :: l, cs, off, h, hg => by
    cases h with
    | cons h h2 =>
      rename_i a b
      rw [AV.getL] at hg
      split at hg
      · obtain ⟨c1, c, c2, rfl, e1, e2, e3, e4⟩ := h.get hg
        exact ⟨c1, c, c2 ++ b, by simp, e1, e2, e3, e4⟩
      · obtain ⟨c1, c, c2, rfl, e1, e2, e3, e4⟩ := h2.getL hg
        exact ⟨a ++ c1, c, c2, by simp, by rw [List.length_append, e1, h.len]; omega, e2, e3, e4⟩
end
mutual
theorem RC.set {C : Cx} {n : Nat} {y z : AV} {d : List Value} (hy : RC C y d) : ∀ {x : AV} {cs : List Value} {off : Nat}, RC C x cs → AV.set n y x off = some z → d.length = n →
    ∃ c1 c c2, cs = c1 ++ c ++ c2 ∧ c1.length = off ∧ c.length = n ∧ RC C z (c1 ++ d ++ c2)
  | .agg l, cs, off, h, hg, hn => by
    rw [AV.set] at hg
    split at hg
    · rename_i hc
      cases hg
      obtain ⟨rfl, hn, _⟩ := hc
      exact ⟨[], cs, [], by simp, rfl, by rw [h.len]; exact hn, by simpa using hy⟩
    · obtain ⟨m, hm, rfl⟩ := Option.map_eq_some_iff.1 hg
      obtain ⟨c1, c, c2, a, b, c', e⟩ := RCs.setL hy h.ag hm hn
      exact ⟨c1, c, c2, a, b, c', .agg e⟩
  | .any, cs, off, h, hg, hn => one hy h rfl hg hn
  | .raw v, cs, off, h, hg, hn => one hy h rfl hg hn
  | .tup l, cs, off, h, hg, hn => one hy h rfl hg hn
  | .sl sz l, cs, off, h, hg, hn => one hy h rfl hg hn
  | .fp x, cs, off, h, hg, hn => one hy h rfl hg hn
  | .ptr a b, cs, off, h, hg, hn => one hy h rfl hg hn
  | .ep a b c d, cs, off, h, hg, hn => one hy h rfl hg hn
  | .ow a b c d, cs, off, h, hg, hn => one hy h rfl hg hn
  | .ifc t x, cs, off, h, hg, hn => one hy h rfl hg hn
  | .fn f a b, cs, off, h, hg, hn => one hy h rfl hg hn
where
  one {C : Cx} {n : Nat} {y z x : AV} {d : List Value} (hy : RC C y d) {cs : List Value} {off : Nat} (h : RC C x cs) (hx : x.isAgg = false) (hg : AV.set n y x off = some z) (hn : d.length = n) :
      ∃ c1 c c2, cs = c1 ++ c ++ c2 ∧ c1.length = off ∧ c.length = n ∧ RC C z (c1 ++ d ++ c2) := by
    rw [set_one hx] at hg
    split at hg
    · rename_i hc
      cases hg
      obtain ⟨rfl, rfl, _⟩ := hc
      obtain ⟨v, rfl, _⟩ := h.nag hx
      exact ⟨[], [v], [], rfl, rfl, rfl, by simpa using hy⟩
    · cases hg
theorem RCs.setL {C : Cx} {n : Nat} {y : AV} {d : List Value} (hy : RC C y d) : ∀ {l m : List AV} {cs : List Value} {off : Nat}, RCs C l cs → AV.setL n y l off = some m → d.length = n →
    ∃ c1 c c2, cs = c1 ++ c ++ c2 ∧ c1.length = off ∧ c.length = n ∧ RCs C m (c1 ++ d ++ c2)
  | [], m, cs, off, h, hg, hn => by simp [AV.setL] at hg
  | x :: l, m, cs, off, h, hg, hn => by
    cases h with
    | cons h h2 =>
      rename_i a b
      rw [AV.setL] at hg
      split at hg
      · obtain ⟨z, hz, rfl⟩ := Option.map_eq_some_iff.1 hg
        obtain ⟨c1, c, c2, rfl, e1, e2, e3⟩ := RC.set hy h hz hn
        exact ⟨c1, c, c2 ++ b, by simp, e1, e2, by
          have := RCs.cons e3 h2
          simpa using this⟩
      · obtain ⟨z, hz, rfl⟩ := Option.map_eq_some_iff.1 hg
        obtain ⟨c1, c, c2, rfl, e1, e2, e3⟩ := RCs.setL hy h2 hz hn
        refine ⟨a ++ c1, c, c2, by simp, by rw [List.length_append, e1, h.len]; omega, e2, ?_⟩
        have := RCs.cons h e3
        simpa using this
end

/-! ### Loads -/
theorem add_at (b o i : Nat) : (Addr.add ⟨b, o, none⟩ i : Addr) = ⟨b, o + i, none⟩ := by
  unfold Addr.add
  split
  · rename_i h; subst h; rfl
  · rfl
theorem run_loadCells {P : Program} {W : World} {b o : Nat} : ∀ (c : List Value) (i : Nat) (acc : Array Value), Reads W b (o + i) c →
    (loadCellsFrom ⟨b, o, none⟩ i c.length acc).run P W = .ok (acc ++ c.toArray) W
  | [], i, acc, h => by simp [loadCellsFrom]
  | v :: c, i, acc, h => by
    have h0 := h 0 v rfl
    have h1 : Reads W b (o + (i + 1)) c := fun j w hj => by
      have := h (j + 1) w (by simpa using hj)
      rw [show o + (i + 1) + j = o + i + (j + 1) by omega]; exact this
    rw [List.length_cons, loadCellsFrom, Sem.run_bind, run_load, add_at]
    rw [show o + i = o + i + 0 by omega, h0]
    simp only [Result.andThen_ok]
    rw [run_loadCells c (i + 1) _ h1]
    simp
theorem run_loadVar {P : Program} {C : Cx} {t : TypeId} {n b o : Nat} {ag : Bool} {y : AV} {c : List Value} (ht : tyI P t = some (n, ag)) (hr : Reads C.W b o c) (hn : c.length = n) (hc : RC C y c) (hag : y.isAgg = ag) :
    ∃ v, (loadVar t ⟨b, o, none⟩).run P C.W = .ok v C.W ∧ RV C y v := by
  subst hn
  cases ag with
  | true =>
    refine ⟨.agg c.toArray, ?_, hc.val.1 hag⟩
    have := run_loadCells (P := P) (b := b) (o := o) c 0 #[] (by simpa using hr)
    simp [loadVar, tyI_agg ht, tyI_size ht, loadCells, this]
  | false =>
    obtain ⟨v, rfl, hv⟩ := hc.val.2 hag
    refine ⟨v, ?_, hv⟩
    have := hr 0 v rfl
    simp [loadVar, tyI_agg ht]
    rw [show (o : Nat) = o + 0 from rfl, this]

/-! ### Stores -/
theorem setCell_at {W : World} {b i : Nat} {cs : Array Value} {t : TypeId} {fr : Nat × Nat} (h : W.heap[b]? = some (.cells cs t fr)) (v : Value) :
    (W.setCell ⟨b, i, none⟩ v).heap[b]? = some (.cells (cs.setIfInBounds i v) t fr) := by
  simp [World.setCell, Array.getElem?_modify, h]
theorem run_store1 {P : Program} {W : World} {b i : Nat} {cs : Array Value} {t : TypeId} {fr : Nat × Nat} (h : W.heap[b]? = some (.cells cs t fr)) (hf : NoFz cs.size fr) (hi : i < cs.size) {v : Value} (hv : Cell v) :
    (store ⟨b, i, none⟩ v).run P W = .ok () (W.setCell ⟨b, i, none⟩ v) := by
  have h1 : W.cell? ⟨b, i, none⟩ = some cs[i] := by
    unfold World.cell?
    rw [h]; simp [Array.getElem?_eq_getElem hi]
  have h2 : W.frozen? ⟨b, i, none⟩ = false := by
    unfold World.frozen?
    rw [h]
    have := hf.1 i hi
    simp only [Bool.and_eq_false_imp, decide_eq_true_eq, decide_eq_false_iff_not]
    intro a c; exact this ⟨a, c⟩
  unfold store
  cases v <;> first | exact absurd rfl (hv.1 _) | exact absurd rfl (hv.2 _) | simp [Sem.run, h1, h2]
/-- What a store does to the world: one block's cells change. -/
structure Put (W W' : World) (b : Nat) : Prop where
  os : W'.os = W.os
  tape : W'.tape = W.tape
  output : W'.output = W.output
  size : W'.heap.size = W.heap.size
  other : ∀ k, k ≠ b → W'.heap[k]? = W.heap[k]?
theorem Put.refl (W : World) (b : Nat) : Put W W b := ⟨rfl, rfl, rfl, rfl, fun _ _ => rfl⟩
theorem run_storeCells {P : Program} {b o : Nat} {t : TypeId} {fr : Nat × Nat} : ∀ (d : List Value) (i : Nat) (W : World) (c1 c c2 : List Value), W.heap[b]? = some (.cells (c1 ++ c ++ c2).toArray t fr) → NoFz (c1 ++ c ++ c2).length fr → c1.length = o + i → c.length = d.length →
    (∀ v ∈ d, Cell v) → ∃ W', (storeCells ⟨b, o, none⟩ d i).run P W = .ok () W' ∧ Put W W' b ∧ W'.heap[b]? = some (.cells (c1 ++ d ++ c2).toArray t fr)
  | [], i, W, c1, c, c2, h, hf, h1, h2, hv => by
    have : c = [] := List.eq_nil_of_length_eq_zero (by simpa using h2)
    subst this
    exact ⟨W, by simp [storeCells], .refl W b, h⟩
  | v :: d, i, W, c1, c, c2, h, hf, h1, h2, hv => by
    cases c with
    | nil => simp at h2
    | cons x c =>
      have hi : o + i < (c1 ++ (x :: c) ++ c2).toArray.size := by
        rw [List.size_toArray]; simp only [List.length_append, List.length_cons]; omega
      have hs := run_store1 (P := P) h (by simpa using hf) hi (hv v (by simp))
      have h3 := setCell_at (i := o + i) h v
      have e : ((c1 ++ (x :: c) ++ c2).toArray.setIfInBounds (o + i) v) = ((c1 ++ [v]) ++ c ++ c2).toArray := by
        rw [List.setIfInBounds_toArray, ← h1]
        simp
      rw [e] at h3
      obtain ⟨W', hr, hp, hw⟩ := run_storeCells (o := o) d (i + 1) _ (c1 ++ [v]) c c2 h3 (by simpa using hf) (by simp; omega) (by simpa using h2) (fun w hw => hv w (by simp [hw]))
      refine ⟨W', ?_, ⟨hp.os, hp.tape, hp.output, hp.size.trans (by simp [World.setCell]), fun k hk => (hp.other k hk).trans (Below.heap_setCell W _ _ k hk)⟩, by simpa using hw⟩
      rw [storeCells, Sem.run_bind, add_at, hs]
      exact hr
theorem run_storeVar {P : Program} {W : World} {t ty : TypeId} {n b : Nat} {ag : Bool} {fr : Nat × Nat} {c1 c c2 : List Value} {v : Value} (ht : tyI P t = some (n, ag)) (h : W.heap[b]? = some (.cells (c1 ++ c ++ c2).toArray ty fr)) (hf : NoFz (c1 ++ c ++ c2).length fr)
    (hc : c.length = n) (hv : v.cells.toList.length = n) (hcell : ∀ x ∈ v.cells.toList, Cell x) :
    ∃ W', (storeVar t ⟨b, c1.length, none⟩ v).run P W = .ok () W' ∧ Put W W' b ∧ W'.heap[b]? = some (.cells (c1 ++ v.cells.toList ++ c2).toArray ty fr) := by
  obtain ⟨W', hr, hp, hw⟩ := run_storeCells (P := P) (o := c1.length) v.cells.toList 0 W c1 c c2 h hf rfl (by rw [hc, hv]) hcell
  refine ⟨W', ?_, hp, hw⟩
  have hsz : v.cells.size = n := by simpa using hv
  simp [storeVar, tyI_size ht, hsz]
  exact hr
end Go.Proofs.YtngeckkebejhiaaDoor.Asl
