/- Part 5 of what the row leans on: abstract values and states, their rules, and the contracts of the functions. -/
import Derived.Lib.ConvBytes
import Derived.Test.YtejeemhenoobjaaZW14P4
namespace Go.Proofs.Ytejeemhenoobjaa.Asl
open Go Go.RowKit
set_option linter.unusedVariables false
set_option linter.unusedSimpArgs false
variable {P : Program} {nt : Nat} {C : Cx} {σ : St} {a : Act} {o : Oper}

/-! ### Literals -/
def setAll : List AV → List (Nat × AV) → Option (List AV)
  | zs, [] => some zs
  | zs, (i, y) :: r => match zs[i]? with
    | some z => if z.size = y.size ∧ (y.isAgg = true ∨ y.one = true) then setAll (zs.set i y) r else none
    | none => none
theorem foldl_seg {off : Nat} : ∀ (c : List Value) (k : Nat) (p q r : List Value), q.length = c.length → p.length = off + k → (c.zipIdx k).foldl (fun (cs : Array Value) (x : Value × Nat) => cs.setIfInBounds (off + x.2) x.1) (p ++ q ++ r).toArray = (p ++ c ++ r).toArray
  | [], k, p, q, r, h, _ => by
    have : q = [] := List.eq_nil_of_length_eq_zero h
    subst this; simp
  | x :: c, k, p, q, r, h, hp => by
    cases q with
    | nil => simp at h
    | cons y q =>
      rw [List.zipIdx_cons, List.foldl_cons]
      have e : ((p ++ (y :: q) ++ r).toArray.setIfInBounds (off + k) x) = ((p ++ [x]) ++ q ++ r).toArray := by
        rw [List.setIfInBounds_toArray, ← hp]; simp
      rw [e, foldl_seg c (k + 1) (p ++ [x]) q r (by simpa using h) (by simp; omega)]
      simp
theorem RCs.set_at {C : Cx} {l : List AV} {cs : List Value} (h : RCs C l cs) {i : Nat} {z y : AV} (hi : l[i]? = some z) {d : List Value} (hy : RC C y d) (hd : d.length = z.size) :
    ∃ c1 c c2, cs = c1 ++ c ++ c2 ∧ c1.length = AV.sizes (l.take i) ∧ c.length = z.size ∧ RCs C (l.set i y) (c1 ++ d ++ c2) := by
  have hlt := (List.getElem?_eq_some_iff.1 hi).1
  have hx := (List.getElem?_eq_some_iff.1 hi).2
  have e : l = l.take i ++ (z :: l.drop (i + 1)) := by rw [← hx, List.getElem_cons_drop, List.take_append_drop]
  have es : l.set i y = l.take i ++ (y :: l.drop (i + 1)) := by rw [List.set_eq_take_append_cons_drop, if_pos hlt]
  rw [e] at h
  obtain ⟨c1, c2, rfl, h1, h2⟩ := h.split
  cases h2 with
  | cons p1 p2 =>
    rename_i ca cb
    refine ⟨c1, ca, cb, by simp, h1.len, p1.len, ?_⟩
    rw [es, List.append_assoc]
    exact h1.append (.cons hy p2)
theorem sizes_set {l : List AV} {i : Nat} {z y : AV} (hi : l[i]? = some z) (hs : z.size = y.size) (j : Nat) : AV.sizes ((l.set i y).take j) = AV.sizes (l.take j) := by
  have e : ∀ (l : List AV) (i j : Nat), l[i]? = some z → AV.sizes ((l.set i y).take j) = AV.sizes (l.take j) := by
    intro l
    induction l with
    | nil => intro i j h; simp at h
    | cons x l ih =>
      intro i j h
      cases j with
      | zero => simp
      | succ j =>
        cases i with
        | zero => simp at h; subst h; simp [AV.sizes, hs]
        | succ i => simp at h; simp [AV.sizes, ih i j h]
  exact e l i j hi
/-- The parts are laid where the layout says. -/
theorem fill_ok {place : Nat → Option (Nat × Nat)} : ∀ (ps : List (Nat × AV)) (vs : List (Nat × Value)) (zs l : List AV) (cs : Array Value), RCs C zs cs.toList → vs.map (·.1) = ps.map (·.1) → RVs C (ps.map (·.2)) (vs.map (·.2)) → setAll zs ps = some l →
    (∀ i z, zs[i]? = some z → place i = some (AV.sizes (zs.take i), z.size)) → ∃ cs', Instr.fill place cs vs = some cs' ∧ RCs C l cs'.toList
  | [], vs, zs, l, cs, h, h1, h2, h3, h4 => by
    have : vs = [] := List.eq_nil_of_length_eq_zero (by have := congrArg List.length h1; simpa using this)
    subst this
    simp [setAll] at h3; subst h3
    exact ⟨cs, rfl, h⟩
  | (i, y) :: ps, vs, zs, l, cs, h, h1, h2, h3, h4 => by
    cases vs with
    | nil => simp at h1
    | cons v vs =>
      obtain ⟨j, v⟩ := v
      simp only [List.map_cons, List.cons.injEq] at h1
      obtain ⟨rfl, h1⟩ := h1
      cases h2 with
      | cons hv h2 =>
        simp only [setAll] at h3
        cases hz : zs[j]? with
        | none => rw [hz] at h3; cases h3
        | some z =>
          rw [hz] at h3
          simp only at h3
          split at h3
          · rename_i hc
            have hvc := hv.cells hc.2
            have hvl : v.cells.toList.length = z.size := by rw [hvc.len, hc.1]
            obtain ⟨c1, c, c2, e, e1, e2, e3⟩ := h.set_at hz hvc hvl
            have hcs : cs = (c1 ++ c ++ c2).toArray := by rw [← e]
            subst hcs
            simp only [Instr.fill, h4 j z hz]
            have hsz : v.cells.size = z.size := by simpa using hvl
            rw [if_neg (by simp [hsz, ← e1, e2])]
            have hfold : (v.cells.zipIdx.foldl (fun cs x => cs.setIfInBounds (AV.sizes (zs.take j) + x.2) x.1) (c1 ++ c ++ c2).toArray) = (c1 ++ v.cells.toList ++ c2).toArray := by
              rw [← Array.foldl_toList, Array.toList_zipIdx]
              exact foldl_seg v.cells.toList 0 c1 c c2 (by rw [e2, hvl]) (by rw [e1]; rfl)
            rw [hfold]
            exact fill_ok ps vs (zs.set j y) l _ (by simpa using e3) h1 h2 h3 (fun k w hk => by
              rw [sizes_set hz hc.1]
              by_cases hjk : k = j
              · subst hjk
                have hlt := (List.getElem?_eq_some_iff.1 hz).1
                rw [List.getElem?_set_self hlt] at hk
                cases hk
                rw [← hc.1]; exact h4 k z hz
              · rw [List.getElem?_set_ne (fun h => hjk h.symm)] at hk
                exact h4 k w hk)
          · cases h3

def pmap (e : Operand → AV) (parts : Array (Nat × Operand)) : List (Nat × AV) := parts.toList.map fun p => (p.1, e p.2)
theorem parts_ok (s : Sat nt C σ a) (parts : Array (Nat × Operand)) : ((parts.map fun (x : Nat × Operand) => (x.1, a.eval x.2)).toList).map (·.1) = (pmap (evE σ.env) parts).map (·.1) ∧ RVs C ((pmap (evE σ.env) parts).map (·.2)) (((parts.map fun (x : Nat × Operand) => (x.1, a.eval x.2)).toList).map (·.2)) := by
  refine ⟨by simp [pmap], ?_⟩
  have := s.evs (parts.toList.map (·.2))
  simpa [pmap, List.map_map, Function.comp_def] using this

/-- A struct type's layout: where each field lies, as its zero value's parts tell it. -/
def layIs (P : Program) (t : TypeId) (zs : List AV) : Prop := ∃ fs, P.underlying t = some (.struct fs) ∧ fs.size = zs.length ∧ ∀ i d z, fs[i]? = some d → zs[i]? = some z → d.offset = AV.sizes (zs.take i) ∧ (P.info? d.type).map (·.size) = some z.size
theorem mapM_run {α β : Type} {w : World} (f : α → Sem β) (g : α → β) : ∀ (l : List α), (∀ x ∈ l, (f x).run P w = .ok (g x) w) → (l.mapM f).run P w = .ok (l.map g) w
  | [], _ => rfl
  | x :: l, h => by
    rw [List.mapM_cons, Sem.run_bind, h x (by simp)]
    simp only [Result.andThen_ok, Sem.run_bind]
    rw [mapM_run f g l (fun y hy => h y (by simp [hy]))]
    rfl
theorem snd_build (s : Sat nt C σ a) {t : TypeId} {parts : Array (Nat × Operand)} (ho : o.op = .build t parts) {zs l : List AV} (hz : zeroIs P t (.agg zs)) (hl : layIs P t zs) (h : setAll zs (pmap (evE σ.env) parts) = some l) : Res P nt C σ a o (.agg l) σ.heap := by
  obtain ⟨v, hzr, hzv, _⟩ := hz.run (C := C) C.W
  obtain ⟨cs, rfl, hzc⟩ := hzv.agg_inv
  obtain ⟨fs, hu, hn, hlay⟩ := hl
  obtain ⟨h1, h2⟩ := parts_ok s parts
  have hmap : (fs.mapM (m := Sem) fun f => do pure (f.offset, ← sizeOf f.type)).run P C.W = .ok (fs.map fun f => (f.offset, P.cellsOf f.type)) C.W := by
    rw [← Array.toArray_toList (xs := fs), List.mapM_toArray, Sem.run_map, mapM_run _ (fun f => (f.offset, P.cellsOf f.type))]
    · simp only [Result.andThen_ok]
      congr 1
      apply Array.toList_inj.1
      simp
    · intro f hf
      obtain ⟨i, hi, rfl⟩ := List.getElem_of_mem hf
      have hi2 : i < fs.size := by simpa using hi
      have hz : zs[i]? = some zs[i] := List.getElem?_eq_getElem (by omega)
      obtain ⟨_, hs⟩ := hlay i fs[i] zs[i] (Array.getElem?_eq_getElem hi2) hz
      obtain ⟨ti, hti, _⟩ := Option.map_eq_some_iff.1 hs
      simp [sizeOf, typeInfo, program, Sem.run, hti, Program.cellsOf]
  obtain ⟨cs', hf, hc⟩ := fill_ok (place := fun i => (fs.map fun f => (f.offset, P.cellsOf f.type))[i]?) _ _ zs l cs.toArray (by simpa using hzc) h1 h2 h (fun i z hi => by
    have hlt := (List.getElem?_eq_some_iff.1 hi).1
    have hi2 : i < fs.size := by omega
    obtain ⟨e1, e2⟩ := hlay i fs[i] z (Array.getElem?_eq_getElem hi2) hi
    obtain ⟨ti, hti, hsz⟩ := Option.map_eq_some_iff.1 e2
    simp [hi2, e1, Program.cellsOf, hti, hsz])
  refine .mk s (v := .agg cs') ?_ (by have := RV.agg hc; simpa using this)
  simp only [Array.getElem?_map] at hf
  simp [execOp, ho, Instr.build, hzr, Value.cells, underlying, program, Sem.run, hu]
  simp at hmap
  rw [hmap]
  simp only [Array.toList_map] at hf
  simp only [Result.andThen_ok, Array.getElem?_map, hf]
  simp [hf]

theorem zeros_RCs {z : AV} {c : List Value} (h : RC C z c) : ∀ n, RCs C (List.replicate n z) (List.replicate n c).flatten
  | 0 => .nil
  | n + 1 => by rw [List.replicate_succ, List.replicate_succ, List.flatten_cons]; exact .cons h (zeros_RCs h n)
theorem range_flat (c : Array Value) {sz : Nat} (hs : c.size = sz) (hp : 0 < sz) : ∀ n, (List.range (n * sz)).map (fun i => c[i % sz]!) = (List.replicate n c.toList).flatten
  | 0 => by simp
  | n + 1 => by
    rw [Nat.succ_mul, List.range_add, List.map_append, range_flat c hs hp n, List.replicate_succ', List.flatten_append, List.map_map]
    congr 1
    simp only [List.flatten_cons, List.flatten_nil, List.append_nil]
    apply List.ext_getElem
    · simp [hs]
    · intro i h1 h2
      have h3 : i < sz := by simpa using h1
      simp [Nat.add_comm, Nat.mod_eq_of_lt h3, hs, h3]
theorem snd_buildSlice (s : Sat nt C σ a) {t : TypeId} {n : Nat} {parts : Array (Nat × Operand)} (ho : o.op = .buildSlice t n parts) {e : TypeId} {sz bytes : Nat} (ht : rowI P t = some (e, sz, bytes)) {z : AV} {l : List AV} (hz : zeroIs P e z) (hzs : z.size = sz) (hn : n * sz ≤ 16777216)
    {d : Nat} (hd : σ.heap d = none) (h : setAll (List.replicate n z) (pmap (evE σ.env) parts) = some l) : Res P nt C σ a o (.ow d sz 0 n) (setH σ.heap d (.arr sz l)) := by
  obtain ⟨hu, ti, zv, hti, hzv, hsz, hby, hzsz, hpos⟩ := rowI_at ht
  obtain ⟨v, hzr, hzv2, hz1⟩ := hz.run (C := C) C.W
  have hzc := hzv2.cells hz1
  have hveq : v = zv := by
    have : (zeroValue e).run P C.W = .ok zv C.W := by simp [zeroValue, typeInfo, program, Sem.run, hti, hzv]
    rw [hzr] at this
    cases this; rfl
  subst hveq
  obtain ⟨h1, h2⟩ := parts_ok s parts
  have hall : ∀ x ∈ List.replicate n z, x.size = sz := fun x hx => by rw [List.eq_of_mem_replicate hx]; exact hzs
  have hflat : ((Array.range (n * sz)).map (v.cells[· % v.cells.size]!)).toList = (List.replicate n v.cells.toList).flatten := by
    rw [hzsz, Array.toList_map, Array.toList_range]
    exact range_flat v.cells hzsz hpos n
  obtain ⟨cs', hf, hc⟩ := fill_ok (place := fun i => some (i * sz, sz)) _ _ (List.replicate n z) l ((Array.range (n * sz)).map (v.cells[· % v.cells.size]!)) (by rw [hflat]; exact zeros_RCs hzc n) h1 h2 h (fun i q hi => by
    have hq := hall q (List.mem_of_getElem? hi)
    have hlt := (List.getElem?_eq_some_iff.1 hi).1
    rw [AV.sizes_all (sz := sz) (fun x hx => hall x (List.mem_of_mem_take hx)), List.length_take, hq]
    congr 2; congr 1; omega)
  have hg := Grow.alloc C.W (.cells cs' e)
  have hlen : cs'.toList.length = n * sz := by
    rw [hc.len]
    have : ∀ (ps : List (Nat × AV)) (zs l : List AV), setAll zs ps = some l → AV.sizes l = AV.sizes zs := by
      intro ps
      induction ps with
      | nil => intro zs l h; simp [setAll] at h; rw [h]
      | cons p ps ih =>
        intro zs l h
        obtain ⟨i, y⟩ := p
        simp only [setAll] at h
        cases hz : zs[i]? with
        | none => rw [hz] at h; cases h
        | some w =>
          rw [hz] at h
          simp only at h
          split at h
          · rename_i hcc
            rw [ih _ _ h]
            have := sizes_set hz hcc.1 zs.length
            rwa [List.take_of_length_le (by simp), List.take_length] at this
          · cases h
    rw [this _ _ _ h, AV.sizes_all hall, List.length_replicate]
  have hsz2 : ∀ x ∈ l, x.size = sz := by
    have : ∀ (ps : List (Nat × AV)) (zs l : List AV), setAll zs ps = some l → (∀ x ∈ zs, x.size = sz) → ∀ x ∈ l, x.size = sz := by
      intro ps
      induction ps with
      | nil => intro zs l h; simp [setAll] at h; rw [h]; exact id
      | cons p ps ih =>
        intro zs l h hh
        obtain ⟨i, y⟩ := p
        simp only [setAll] at h
        cases hz : zs[i]? with
        | none => rw [hz] at h; cases h
        | some w =>
          rw [hz] at h
          simp only at h
          split at h
          · rename_i hcc
            refine ih _ _ h fun x hx => ?_
            rcases List.mem_or_eq_of_mem_set hx with hx | rfl
            · exact hh x hx
            · rw [← hcc.1]; exact hh w (List.mem_of_getElem? hz)
          · cases h
    exact this _ _ _ h hall
  refine ⟨_, .slice (some ⟨C.W.heap.size, 0, none⟩) n n, newC C (C.W.alloc (.cells cs' e)) d n, ?_, .inl rfl, newC_ext s.heap hg hd n, newArr_sat (cs := cs'.toList) (rest := []) (ty := e) s hd hc hsz2 (by simpa using hlen) (hzs ▸ (by omega)) hg ?_, newC_ow (Nat.le_refl _)⟩
  · have hnn : ¬ (n * sz > 16777216) := by omega
    have hzs2 : v.cells.size = ti.size := by rw [hsz]; exact hzsz
    simp only [Array.toList_map] at hf
    have hb : (Instr.buildSlice t n (parts.map fun (x : Nat × Operand) => (x.1, a.eval x.2))).run P C.W = .ok (.slice (some ⟨C.W.heap.size, 0, none⟩) n n) (C.W.alloc (.cells cs' e)) := by
      unfold Instr.buildSlice
      simp only [Sem.run_bind, run_underlying hu, Result.andThen_ok]
      rw [show (sizeOf e).run P C.W = .ok sz C.W by simp [sizeOf, typeInfo, hti, hsz]]
      simp only [Result.andThen_ok]
      rw [if_neg (by omega)]
      simp [newRow, newObj]
      split
      · rename_i h0
        have h00 : n * sz = 0 := h0
        have : Array.map (fun x => (default : Value)) (Array.range (n * sz)) = Array.map (fun x => v.cells[x % v.cells.size]!) (Array.range (n * sz)) := by
          rw [h00]; apply Array.ext <;> simp
        rw [this, hf]; simp [Sem.run]
      · rw [hzr]
        simp only [Result.andThen_ok]
        rw [hf]; simp [Sem.run]
    simp only [execOp, ho, Sem.run_bind, newC]
    rw [show (parts.map fun x => match x with | (i, x) => (i, a.eval x)) = parts.map fun (x : Nat × Operand) => (x.1, a.eval x.2) from rfl, hb]
    rfl
  · show (C.W.heap.push _)[C.W.heap.size]? = _
    simp

/-! ### Assertions, nil -/
theorem snd_assert (s : Sat nt C σ a) {x : Operand} {xt t : TypeId} {ok : Bool} (ho : o.op = .typeAssert x xt t ok) (ht : isIface P t = false) {r : AV}
    (h : (∃ y, evE σ.env x = .ifc t y ∧ r = (if ok then .tup [y, .raw (.bool true)] else y)) ∨ (∃ t' y z, evE σ.env x = .ifc t' y ∧ t' ≠ t ∧ ok = true ∧ zeroIs P t z ∧ r = .tup [z, .raw (.bool false)]) ∨ (∃ z, evE σ.env x = .raw .nilIface ∧ ok = true ∧ zeroIs P t z ∧ r = .tup [z, .raw (.bool false)])) :
    Res P nt C σ a o r σ.heap := by
  obtain ⟨d, hd, hn⟩ := isIface_not ht
  have hx := s.ev x
  have tw : ∀ (v : Value) (b : Bool) (y : AV), RV C y v → RV C (.tup [y, .raw (.bool b)]) (.tuple #[v, .bool b]) := fun v b y h => RV.tup (.cons h (.cons (.raw _) .nil))
  rcases h with ⟨y, hy, rfl⟩ | ⟨t', y, z, hy, hne, rfl, hz, rfl⟩ | ⟨z, hy, rfl, hz, rfl⟩
  · rw [hy] at hx
    generalize hv : a.eval x = v at hx
    cases hx with
    | ifc hx =>
      rename_i v
      cases ok with
      | true =>
        refine .mk s (v := .tuple #[v, .bool true]) ?_ (tw _ _ _ hx)
        cases d <;> first | exact absurd rfl (hn _) | simp [execOp, ho, Instr.typeAssert, run_underlying hd, hv]
      | false =>
        refine .mk s (v := v) ?_ hx
        cases d <;> first | exact absurd rfl (hn _) | simp [execOp, ho, Instr.typeAssert, run_underlying hd, hv]
  · rw [hy] at hx
    obtain ⟨zv, hzr, hzv, _⟩ := hz.run (C := C) C.W
    generalize hv : a.eval x = v at hx
    cases hx with
    | ifc hx =>
      refine .mk s (v := .tuple #[zv, .bool false]) ?_ (tw _ _ _ hzv)
      cases d <;> first | exact absurd rfl (hn _) | simp [execOp, ho, Instr.typeAssert, run_underlying hd, hv, hne, hzr]
  · obtain ⟨zv, hzr, hzv, _⟩ := hz.run (C := C) C.W
    refine .mk s (v := .tuple #[zv, .bool false]) ?_ (tw _ _ _ hzv)
    cases d <;> first | exact absurd rfl (hn _) | simp [execOp, ho, Instr.typeAssert, run_underlying hd, s.raw hy, hzr]

def isPtr (P : Program) (t : TypeId) : Bool := match P.underlying t with | some (.pointer _) => true | _ => false
def isIf (P : Program) (t : TypeId) : Bool := match P.underlying t with | some (.interface _) => true | _ => false
theorem isPtr_at {t : TypeId} (h : isPtr P t = true) : ∃ e, P.underlying t = some (.pointer e) := by
  unfold isPtr at h; split at h
  · exact ⟨_, by assumption⟩
  · cases h
theorem isIf_at {t : TypeId} (h : isIf P t = true) : ∃ e, P.underlying t = some (.interface e) := by
  unfold isIf at h; split at h
  · exact ⟨_, by assumption⟩
  · cases h
/-- Is a pointer nil? -/
def ptrNil : AV → Option Bool
  | .ptr _ _ | .ep _ _ _ _ | .fp _ => some false
  | .raw v => match v with
    | .pointer none => some true
    | _ => none
  | _ => none
/-- Is an interface value nil? -/
def ifNil : AV → Option Bool
  | .ifc _ _ => some false
  | .raw v => match v with
    | .nilIface => some true
    | _ => none
  | _ => none
theorem equal_ptr {t e : TypeId} (hu : P.underlying t = some (.pointer e)) (w : World) (p : Option Addr) : (Op.equal t (.pointer p) (.pointer none)).run P w = .ok p.isNone w := by
  have : ∀ d, (Op.equalIn (d + 1) t (.pointer p) (.pointer none)).run P w = .ok p.isNone w := by
    intro d
    cases p <;> simp [Op.equalIn, run_underlying hu]
  exact this 9999
theorem equal_if {t : TypeId} {e : Array (String × TypeId)} (hu : P.underlying t = some (.interface e)) (w : World) {v : Value} (hv : v = .nilIface ∨ ∃ t v', v = .iface t v') : (Op.equal t v .nilIface).run P w = .ok (match v with | .nilIface => true | _ => false) w := by
  have : ∀ d, (Op.equalIn (d + 1) t v .nilIface).run P w = .ok (match v with | .nilIface => true | _ => false) w := by
    intro d
    rcases hv with rfl | ⟨t', v', rfl⟩ <;> simp [Op.equalIn, run_underlying hu]
  exact this 9999
theorem ptrNil_at {x : AV} {v : Value} {b : Bool} (hx : RV C x v) (h : ptrNil x = some b) : ∃ p, v = .pointer p ∧ b = p.isNone := by
  cases x with
  | ptr _ _ => simp [ptrNil] at h; subst h; cases hx; exact ⟨_, rfl, rfl⟩
  | ep _ _ _ _ => simp [ptrNil] at h; subst h; cases hx; exact ⟨_, rfl, rfl⟩
  | fp _ => simp [ptrNil] at h; subst h; cases hx; exact ⟨_, rfl, rfl⟩
  | raw w =>
    have := hx.raw_eq; subst this
    simp only [ptrNil] at h
    split at h
    · cases h; exact ⟨none, rfl, rfl⟩
    · cases h
  | _ => simp [ptrNil] at h
theorem ifNil_at {x : AV} {v : Value} {b : Bool} (hx : RV C x v) (h : ifNil x = some b) : (v = .nilIface ∧ b = true) ∨ ∃ t v', v = .iface t v' ∧ b = false := by
  cases x with
  | ifc _ _ => simp [ifNil] at h; subst h; cases hx; exact .inr ⟨_, _, rfl, rfl⟩
  | raw w =>
    have := hx.raw_eq; subst this
    simp only [ifNil] at h
    split at h
    · cases h; exact .inl ⟨rfl, rfl⟩
    · cases h
  | _ => simp [ifNil] at h
theorem snd_ptrNil (s : Sat nt C σ a) {op : BinOp} {t ty : TypeId} {x y : Operand} (ho : o.op = .binOp op t x y ty) {b : Bool} (ht : isPtr P t = true) (hy : evE σ.env y = .raw (.pointer none)) (h : ptrNil (evE σ.env x) = some b) :
    (op = .eql → Res P nt C σ a o (.raw (.bool b)) σ.heap) ∧ (op = .neq → Res P nt C σ a o (.raw (.bool (!b))) σ.heap) := by
  obtain ⟨p, hv, rfl⟩ := ptrNil_at (s.ev x) h
  obtain ⟨e, he⟩ := isPtr_at ht
  have hq := equal_ptr he C.W p
  refine ⟨?_, ?_⟩ <;> rintro rfl
  · exact .mk s (v := .bool p.isNone) (by simp [execOp, ho, hv, s.raw hy, eqGuard, binOp, hq]) (.raw _)
  · exact .mk s (v := .bool (!p.isNone)) (by simp [execOp, ho, hv, s.raw hy, eqGuard, binOp, hq]) (.raw _)
theorem snd_ifNil (s : Sat nt C σ a) {op : BinOp} {t ty : TypeId} {x : Operand} (ho : o.op = .binOp op t x (.const .nilIface) ty) {b : Bool} (ht : isIf P t = true) (h : ifNil (evE σ.env x) = some b) :
    (op = .eql → Res P nt C σ a o (.raw (.bool b)) σ.heap) ∧ (op = .neq → Res P nt C σ a o (.raw (.bool (!b))) σ.heap) := by
  obtain ⟨e, he⟩ := isIf_at ht
  have hy : a.eval (.const .nilIface) = .nilIface := rfl
  rcases ifNil_at (s.ev x) h with ⟨hv, rfl⟩ | ⟨t', v', hv, rfl⟩
  · have hq := equal_if he C.W (v := .nilIface) (.inl rfl)
    refine ⟨?_, ?_⟩ <;> rintro rfl
    · exact .mk s (v := .bool true) (by simp [execOp, ho, hv, hy, eqGuard, binOp, hq]) (.raw _)
    · exact .mk s (v := .bool false) (by simp [execOp, ho, hv, hy, eqGuard, binOp, hq]) (.raw _)
  · have hq := equal_if he C.W (v := .iface t' v') (.inr ⟨_, _, rfl⟩)
    refine ⟨?_, ?_⟩ <;> rintro rfl
    · exact .mk s (v := .bool false) (by simp [execOp, ho, hv, hy, eqGuard, binOp, hq]) (.raw _)
    · exact .mk s (v := .bool true) (by simp [execOp, ho, hv, hy, eqGuard, binOp, hq]) (.raw _)

/-! ### Texts and bytes -/
/-- The bytes of a row, as a text. -/
def byteOf : AV → Option UInt8
  | .raw (.int .u8 n) => some (UInt8.ofNat n.toNat)
  | _ => none
def strOf : List AV → Option (List UInt8)
  | [] => some []
  | x :: l => match byteOf x, strOf l with
    | some b, some m => some (b :: m)
    | _, _ => none
theorem strOf_cells {C : Cx} : ∀ {l : List AV} {cs : List Value} {bs : List UInt8}, RCs C l cs → strOf l = some bs → ∃ ns : List Int, cs = ns.map (Value.int .u8) ∧ bs = ns.map fun n => UInt8.ofNat n.toNat
  | [], cs, bs, h, hs => by
    cases h
    simp [strOf] at hs; exact ⟨[], rfl, by simp [hs]⟩
  | x :: l, cs, bs, h, hs => by
    cases h with
    | cons h h2 =>
      simp only [strOf] at hs
      split at hs
      · rename_i b m hb hm
        cases hs
        obtain ⟨ns, rfl, rfl⟩ := strOf_cells h2 hm
        unfold byteOf at hb
        split at hb
        · rename_i n
          cases hb
          obtain ⟨v, rfl, hv, _⟩ := h.nag rfl
          have := hv.raw_eq; subst this
          exact ⟨n :: ns, rfl, rfl⟩
        · cases hb
      · cases hs
theorem run_bytes (w : World) : ∀ (ns : List Int) (acc : ByteArray), (forIn (m := Sem) (ns.map (Value.int .u8)) acc fun c s => match c with | .int .u8 n => pure (ForInStep.yield (s.push (UInt8.ofNat n.toNat))) | _ => stuck "bytesToString: byte expected").run P w = .ok ⟨acc.data ++ (ns.map fun n => UInt8.ofNat n.toNat).toArray⟩ w
  | [], acc => by simp
  | n :: ns, acc => by
    rw [List.map_cons, List.forIn_cons]
    simp only [pure_bind]
    rw [run_bytes w ns]
    congr 2
    simp [ByteArray.push]
theorem snd_bytesStr (s : Sat nt C σ a) {src dst : TypeId} {x : Operand} (ho : o.op = .convert src dst x) {e by_ : Nat} (ht : rowI P src = some (e, 1, by_)) (he : P.underlying e = some (.int .u8)) (hd : isStr P dst = true) {l : List AV} {bs : List UInt8} (hx : rowOf σ.heap 1 (evE σ.env x) = some l) (hb : strOf l = some bs) :
    Res P nt C σ a o (.raw (.string ⟨bs.toArray⟩)) σ.heap := by
  obtain ⟨A, c, hv, _, _, hl⟩ := rowOf_ok s (s.ev x) hx
  have hu := (rowI_at ht).1
  have hcv : (convert src dst (a.eval x)).run P C.W = (Conv.bytesToString (a.eval x)).run P C.W := by
    rw [hv]
    simp [convert, run_underlying hu, run_underlying (isStr_at hd), run_underlying he]
  have hbs : (Conv.bytesToString (a.eval x)).run P C.W = .ok (.string ⟨bs.toArray⟩) C.W := by
    rw [hv]
    rcases hl with rfl | ⟨b, off, cs, rfl, h1, h2⟩
    · simp [strOf] at hb
      subst hb
      cases A <;> simp [Conv.bytesToString, loadCells, loadCellsFrom] <;> rfl
    · obtain ⟨ns, rfl, rfl⟩ := strOf_cells h1 hb
      have hlen : (ns.map (Value.int .u8)).length = l.length := by
        rw [h1.len]
        have : ∀ (l : List AV) (bs : List UInt8), strOf l = some bs → AV.sizes l = l.length := by
          intro l
          induction l with
          | nil => intro _ _; rfl
          | cons y l ih =>
            intro bs h
            simp only [strOf] at h
            split at h
            · rename_i b' m hb' hm
              unfold byteOf at hb'
              split at hb'
              · simp [AV.sizes, AV.size, ih m hm]; omega
              · cases hb'
            · cases h
        exact this l _ hb
      have hld := run_loadCells (P := P) (W := C.W) (b := b) (o := off) (ns.map (Value.int .u8)) 0 #[] (by simpa using h2)
      rw [hlen] at hld
      simp only [Conv.bytesToString, loadCells, Sem.run_bind, hld, Result.andThen_ok]
      have := run_bytes (P := P) C.W ns ByteArray.empty
      simp at this ⊢
      exact this
  refine .mk s (v := .string ⟨bs.toArray⟩) ?_ (.raw _)
  simp [execOp, ho, hcv, hbs]
theorem snd_strBytes (s : Sat nt C σ a) {src dst : TypeId} {x : Operand} (ho : o.op = .convert src dst x) {e by_ : Nat} (ht : rowI P dst = some (e, 1, by_)) (he : P.underlying e = some (.int .u8)) (hs : isStr P src = true) {b : ByteArray} (hx : evE σ.env x = .raw (.string b)) {d : Nat} (hd : σ.heap d = none) :
    Res P nt C σ a o (.ow d 1 0 b.size) (setH σ.heap d (.arr 1 (strCellsAV b))) := by
  have hu := (rowI_at ht).1
  have hrun := Lib.run_convert_string_bytes (P := P) C.W src dst e b (isStr_at hs) hu he
  have hge := grownCap_ge C.W b.size 0 e
  have hg : Grow C.W (Lib.bytesWorld C.W e b) := ⟨rfl, rfl, rfl, Lib.bytesWorld_size C.W e b, fun k hk => Lib.bytesWorld_at_old C.W e b k hk⟩
  have hW := Lib.bytesWorld_at_new C.W e b
  have hsz : (Lib.bytesCells C.W e b).size = grownCap C.W b.size 0 e := by
    simp [Lib.bytesCells]
    have : b.data.size = b.size := rfl
    omega
  refine ⟨_, .slice (some ⟨C.W.heap.size, 0, none⟩) b.size (grownCap C.W b.size 0 e), newC C (Lib.bytesWorld C.W e b) d (grownCap C.W b.size 0 e), ?_, .inl rfl, newC_ext s.heap hg hd _, ?_, newC_ow hge⟩
  · simp [execOp, ho, s.raw hx, hrun, newC]
  · refine new_sat s hd hg ⟨C.W.heap.size, grownCap C.W b.size 0 e, _, e, _, b.data.toList.map (fun c => Value.int .u8 c.toNat), List.replicate (grownCap C.W b.size 0 e - b.size) (.int .u8 0), by simp [newC], .inr rfl, hW, ?_, by simp [Lib.bytesCells], (strCells_ok b), ?_, by rw [hsz]; omega, by omega⟩
    · exact ⟨fun o ho h => by omega, by simp⟩
    · intro x hx
      obtain ⟨c, _, rfl⟩ := List.mem_map.1 hx
      rfl
/-- A literal row of bytes, converted to its own type: the block gets a mark behind its last cell. -/
theorem snd_sameSl (s : Sat nt C σ a) {t : TypeId} {x : Operand} (ho : o.op = .convert t t x) {e by_ : Nat} (ht : rowI P t = some (e, 1, by_)) (he : P.underlying e = some (.int .u8)) {id len : Nat} {l : List AV} (hx : evE σ.env x = .ow id 1 0 len) (hob : σ.heap id = some (.arr 1 l)) (hlen : 0 < len) :
    Res P nt C σ a o (.ow id 1 0 len) σ.heap := by
  have hu := (rowI_at ht).1
  have hxv := s.ev x
  rw [hx] at hxv
  obtain ⟨b, T, cs, ty, fr, c1, c2, i1, i2, i3, i4, i5, i6, i7, i8, i9⟩ := s.heap.at_ id _ hob
  generalize hv : a.eval x = v at hxv
  generalize hL : len = L at hxv
  cases hxv with
  | ow0 hι hT => omega
  | ow hι hT =>
    obtain ⟨rfl, rfl⟩ := Prod.mk.inj (Option.some.inj (i1.symm.trans hι))
    subst hL
    have hlt := blk_lt' i3
    have hsh : C.W.shape? b = some (ty, cs.size) := by
      unfold World.shape?
      rw [i3]
    have hrun : (execOp a.eval o).run P C.W = .ok (.value (.slice (some ⟨b, 0 * 1, none⟩) len (T - 0))) (C.W.freeze ⟨b, cs.size, none⟩ 1) := by
      simp [execOp, ho, hv, convert, run_underlying hu, run_underlying he, markStringish, hsh]
    obtain ⟨lo, hi⟩ := fr
    have hW : (C.W.freeze ⟨b, cs.size, none⟩ 1).heap[b]? = some (.cells cs ty (if lo == hi then (cs.size, cs.size + 1) else (min lo cs.size, max hi (cs.size + 1)))) := by
      simp [World.freeze, Array.getElem?_modify, i3]
    have hp : Put C.W (C.W.freeze ⟨b, cs.size, none⟩ 1) b := by
      refine ⟨by simp [World.freeze], by simp [World.freeze], by simp [World.freeze], by simp [World.freeze], fun k hk => ?_⟩
      simp [World.freeze, Array.getElem?_modify, Ne.symm hk]
    have hnf : NoFz cs.size (if lo == hi then (cs.size, cs.size + 1) else (min lo cs.size, max hi (cs.size + 1))) := by
      obtain ⟨n1, n2⟩ := i4
      simp only at n1 n2
      by_cases hlh : lo = hi
      · rw [if_pos (by simpa using hlh)]
        exact ⟨fun o ho h => by simp only at h; omega, by simp only; omega⟩
      · rw [if_neg (by simpa using hlh)]
        have hlo : cs.size ≤ lo := by
          rcases Nat.lt_or_ge lo cs.size with g | g
          · exact absurd ⟨Nat.le_refl _, by omega⟩ (n1 lo g)
          · exact g
        exact ⟨fun o ho h => by simp only at h; omega, by simp only; omega⟩
    have u := put_up s.heap i2 hp
    have sat := upd_sat s hob rfl i1 i2 hp (ob' := .arr 1 l) rfl ⟨b, T, cs, ty, _, c1, c2, i1, i2, hW, hnf, i5, i6.up u, i7, i8, i9⟩
    have eH : setH σ.heap id (.arr 1 l) = σ.heap := by
      funext j
      simp only [setH]
      split
      · rename_i h; rw [h, hob]
      · rfl
    rw [eH] at sat
    exact ⟨_, _, { C with W := C.W.freeze ⟨b, cs.size, none⟩ 1 }, hrun, .inl rfl, put_ext i2 hp, sat, .ow i1 hT⟩
end Go.Proofs.Ytejeemhenoobjaa.Asl

namespace Go.Proofs.Ytejeemhenoobjaa.Asl
open Go Go.RowKit
set_option linter.unusedVariables false
set_option linter.unusedSimpArgs false
variable {P : Program} {nt : Nat} {C : Cx} {σ : St} {a : Act} {o : Oper}

mutual
/-- Does a value lead to no object? -/
def AV.noid : AV → Bool
  | .ptr _ _ | .ep _ _ _ _ | .ow _ _ _ _ | .any => false
  | .agg l => AV.noids l
  | .tup l => AV.noids l
  | .ifc _ x => x.noid
  | .fn _ l m => AV.noids l && AV.noids m
  | _ => true
def AV.noids : List AV → Bool
  | [] => true
  | x :: l => x.noid && AV.noids l
end
theorem AV.noids_iff : ∀ {l : List AV}, AV.noids l = true ↔ ∀ x ∈ l, x.noid = true
  | [] => by simp [AV.noids]
  | x :: l => by simp [AV.noids, AV.noids_iff]
mutual
theorem RV.bare {C : Cx} {x : AV} {v : Value} (h : RV C x v) (hn : x.noid = true) : RV C.bare x v :=
  match h with
  | .raw v => .raw v
  | .agg h => .agg (h.bare (by simpa [AV.noid] using hn))
  | .tup h => .tup (h.bare (by simpa [AV.noid] using hn))
  | .sl0 => .sl0
  | .sl h hs hF hr hc => .sl h hs hF hr hc
  | .fp h hF hr => .fp h hF hr
  | .ifc h => .ifc (h.bare (by simpa [AV.noid] using hn))
  | .fn h1 h2 => by
    simp [AV.noid] at hn
    exact .fn (h1.bare hn.1) (h2.bare hn.2)
  | .any _ | .ptr _ | .ep _ | .ow .. | .ow0 .. => by simp [AV.noid] at hn
theorem RC.bare {C : Cx} {x : AV} {cs : List Value} (h : RC C x cs) (hn : x.noid = true) : RC C.bare x cs :=
  match h with
  | .agg h => .agg (h.bare (by simpa [AV.noid] using hn))
  | .one h h1 => .one (h.bare hn) h1
theorem RCs.bare {C : Cx} {l : List AV} {cs : List Value} (h : RCs C l cs) (hn : AV.noids l = true) : RCs C.bare l cs :=
  match h with
  | .nil => .nil
  | .cons h h2 => by
    simp [AV.noids] at hn
    exact .cons (h.bare hn.1) (h2.bare hn.2)
theorem RVs.bare {C : Cx} {l : List AV} {vs : List Value} (h : RVs C l vs) (hn : AV.noids l = true) : RVs C.bare l vs :=
  match h with
  | .nil => .nil
  | .cons h h2 => by
    simp [AV.noids] at hn
    exact .cons (h.bare hn.1) (h2.bare hn.2)
end

/-- A function that can be called. -/
def isFn (P : Program) (f : FuncId) : Bool := match P.funcs[f]? with
  | some fn => fn.body.isSome && !(fn.name == "runtime.NumGoroutine")
  | none => false
theorem callFunc_run {f : FuncId} (h : isFn P f = true) (args : Array Value) (w : World) : (callFunc f args).run P w = .ok (.enter f args) w := by
  unfold isFn at h
  split at h
  · rename_i fn hf
    simp only [Bool.and_eq_true, Bool.not_eq_true'] at h
    obtain ⟨h1, h2⟩ := h
    have h3 : fn.body.isNone = false := by
      cases hb : fn.body with
      | none => rw [hb] at h1; simp at h1
      | some b => rfl
    simp [callFunc, program, Sem.run, hf, h2, h3]
    rw [if_neg (by simpa using h2), if_neg (by intro hb; rw [hb] at h1; cases h1)]
  · cases h
/-- What is called: a function, what it is given ahead, and what it has caught. -/
def calleeOf : AV → Option (FuncId × List AV × List AV)
  | .raw (.func (.func f) m n) => if m.size = 0 ∧ n.size = 0 then some (f, [], []) else none
  | .fn (.func f) first cap => some (f, first, cap)
  | _ => none
theorem call_run (s : Sat nt C σ a) {c : Call} {x : Operand} (ho : o.op = .call c) (hc : c.callee = .value x) {f : FuncId} {first cap : List AV} (hx : calleeOf (evE σ.env x) = some (f, first, cap)) (hf : isFn P f = true) :
    ∃ vs, (execOp a.eval o).run P C.W = .ok (.enter f vs.toArray) C.W ∧ RVs C (first ++ c.args.toList.map (evE σ.env) ++ cap) vs := by
  have hargs := s.evs c.args.toList
  have hv := s.ev x
  have key : ∀ (fs cs : List Value), a.eval x = .func (.func f) fs.toArray cs.toArray → RVs C first fs → RVs C cap cs → ∃ vs, (execOp a.eval o).run P C.W = .ok (.enter f vs.toArray) C.W ∧ RVs C (first ++ c.args.toList.map (evE σ.env) ++ cap) vs := by
    intro fs cs e h1 h2
    refine ⟨fs ++ c.args.toList.map a.eval ++ cs, ?_, (h1.append hargs).append h2⟩
    have hargs2 : c.args.map a.eval = (c.args.toList.map a.eval).toArray := by rw [← Array.toList_map]
    simp only [execOp, ho, resolve, hc, Deferred.ofValue, e, Sem.run_bind, hargs2]
    simp only [Sem.run_pure, Result.andThen_ok, invoke]
    rw [callFunc_run hf]
    simp
  unfold calleeOf at hx
  split at hx
  · rename_i g m n e
    split at hx
    · rename_i h0
      simp only [Option.some.injEq, Prod.mk.injEq] at hx
      obtain ⟨rfl, rfl, rfl⟩ := hx
      have e1 : m = #[] := Array.eq_empty_of_size_eq_zero h0.1
      have e2 : n = #[] := Array.eq_empty_of_size_eq_zero h0.2
      subst e1; subst e2
      exact key [] [] (s.raw e) .nil .nil
    · cases hx
  · rename_i g fi ca e
    simp only [Option.some.injEq, Prod.mk.injEq] at hx
    obtain ⟨rfl, rfl, rfl⟩ := hx
    rw [e] at hv
    generalize hq : a.eval x = v at hv
    cases hv with
    | fn h1 h2 => exact key _ _ hq h1 h2
  · cases hx

end Go.Proofs.Ytejeemhenoobjaa.Asl

namespace Go.Proofs.Ytejeemhenoobjaa.Asl
open Go Go.RowKit
set_option linter.unusedVariables false
set_option linter.unusedSimpArgs false
variable {P : Program} {nt : Nat} {C : Cx} {σ : St} {a : Act} {o : Oper}

def frz1 (h : Hp) : AV → Hp
  | .ow id _ _ _ => match h id with
    | some (.arr s l) => if AV.noids l = true then setH h id (.fz s l) else h
    | _ => h
  | _ => h
def frzL (h : Hp) : List AV → Hp
  | [] => h
  | x :: l => frzL (frz1 h x) l
def seeF (h : Hp) : AV → AV
  | .ow id s off len => match h id with
    | some (.fz q l) => if q = s ∧ off + len ≤ l.length then .sl s ((l.drop off).take len) else .ow id s off len
    | _ => .ow id s off len
  | x => x

/-- A row of the call's own is only read from now on. -/
theorem freeze_sat (s : Sat nt C σ a) {id sz : Nat} {l : List AV} (hob : σ.heap id = some (.arr sz l)) (hn : AV.noids l = true) :
    ∃ C', C'.W = C.W ∧ C'.ι = C.ι ∧ (∀ b, C'.O b → C.O b) ∧ Ext C C' ∧ Up C C' ∧ Sat nt C' ⟨σ.env, setH σ.heap id (.fz sz l)⟩ a := by
  obtain ⟨b, T, cs, t, fr, c1, c2, h1, h2, h3, h4, h5, h6, h7, h8, h9⟩ := s.heap.at_ id _ hob
  let C' : Cx := { W := C.W, F := fun k => C.F k ∨ k = b, O := fun k => C.O k ∧ k ≠ b, ι := C.ι }
  have u : Up C C' := ⟨fun _ h => .inl h, fun _ _ => rfl, fun _ _ h => h⟩
  have hr : Reads C.W b 0 c1 := by
    have := Reads.of_block h3
    rw [h5] at this
    have := Reads.sub (c1 := []) (c := c1) (c2 := c2) (by simpa using this)
    simpa using this
  refine ⟨C', rfl, rfl, fun _ h => h.1, ⟨rfl, rfl, rfl, Nat.le_refl _, fun _ h => .inl h, fun _ _ _ => rfl, fun k hk => ?_, fun k hk => .inl hk.1, fun _ _ _ h => h⟩, u, s.defers, s.size, fun t => (s.env t).up u, ⟨fun i q hq => ?_, fun i hi => ?_, fun i j b' T' U' o q g1 g2 g3 g4 => ?_, fun k hk hF => ?_, fun k hk => ?_, fun k hk => s.heap.olt k hk.1, s.heap.gl.up u⟩⟩
  · rcases hk with hk | rfl
    · exact .inl hk
    · exact .inr (.inl h2)
  · simp only [setH] at hq
    by_cases e : i = id
    · rw [if_pos e] at hq; cases hq; subst e
      exact ⟨b, T, c1, h1, .inr rfl, hr, (h6.bare hn).up u.bare, h7, h9⟩
    · rw [if_neg e] at hq
      refine (s.heap.at_ i q hq).up u fun b2 T2 k2 k3 k4 => ⟨⟨k3, fun e2 => ?_⟩, rfl⟩
      subst e2
      exact e (s.heap.inj i id _ _ _ q _ hq k4 hob rfl k2 h1)
  · simp only [setH] at hi
    by_cases e : i = id
    · rw [if_pos e] at hi; cases hi
    · rw [if_neg e] at hi; exact s.heap.no i hi
  · simp only [setH] at g1 g3
    have g : ∀ k (q : Ob), (if k = id then some (Ob.fz sz l) else σ.heap k) = some q → q.live = true → σ.heap k = some q := by
      intro k q hk hq
      by_cases e2 : k = id
      · rw [if_pos e2] at hk; cases hk; simp [Ob.live] at hq
      · rw [if_neg e2] at hk; exact hk
    exact s.heap.inj i j b' T' U' o q (g i o g1 g2) g2 (g j q g3 g4) g4
  · rcases hF with hF | rfl
    · exact s.heap.apart k hk.1 hF
    · exact hk.2 rfl
  · rcases hk with hk | rfl
    · exact s.heap.lt k hk
    · exact s.heap.olt _ h2

theorem frz1_sat (s : Sat nt C σ a) (x : AV) : ∃ C', C'.W = C.W ∧ C'.ι = C.ι ∧ (∀ b, C'.O b → C.O b) ∧ Ext C C' ∧ Up C C' ∧ Sat nt C' ⟨σ.env, frz1 σ.heap x⟩ a := by
  have triv : ∃ C', C'.W = C.W ∧ C'.ι = C.ι ∧ (∀ b, C'.O b → C.O b) ∧ Ext C C' ∧ Up C C' ∧ Sat nt C' ⟨σ.env, σ.heap⟩ a := ⟨C, rfl, rfl, fun _ h => h, .refl C, .refl C, s⟩
  unfold frz1
  split
  · split
    · rename_i hob
      split
      · rename_i hn; exact freeze_sat s hob hn
      · exact triv
    · exact triv
  · exact triv
theorem frzL_sat : ∀ (l : List AV) {C : Cx} {σ : St}, Sat nt C σ a → ∃ C', C'.W = C.W ∧ C'.ι = C.ι ∧ (∀ b, C'.O b → C.O b) ∧ Ext C C' ∧ Up C C' ∧ Sat nt C' ⟨σ.env, frzL σ.heap l⟩ a
  | [], C, σ, s => ⟨C, rfl, rfl, fun _ h => h, .refl C, .refl C, s⟩
  | x :: l, C, σ, s => by
    obtain ⟨C1, e1, e2, e3, e4, e5, s1⟩ := frz1_sat s x
    obtain ⟨C2, f1, f2, f3, f4, f5, s2⟩ := frzL_sat l s1
    exact ⟨C2, f1.trans e1, f2.trans e2, fun b h => e3 b (f3 b h), e4.trans f4, e5.trans f5, s2⟩

/-! Rows that are read alone from now on, by their content everywhere. -/
mutual
def AV.deep (h : Hp) : AV → AV
  | .ow id s off n => seeF h (.ow id s off n)
  | .agg l => .agg (AV.deeps h l)
  | .tup l => .tup (AV.deeps h l)
  | .ifc t x => .ifc t (x.deep h)
  | .fn f l m => .fn f (AV.deeps h l) (AV.deeps h m)
  | x => x
def AV.deeps (h : Hp) : List AV → List AV
  | [] => []
  | x :: l => x.deep h :: AV.deeps h l
end
theorem seeF_eq (h : Hp) (id s off n : Nat) : seeF h (.ow id s off n) = .ow id s off n ∨ ∃ l, seeF h (.ow id s off n) = .sl s l := by
  simp only [seeF]
  split
  · split
    · exact .inr ⟨_, rfl⟩
    · exact .inl rfl
  · exact .inl rfl
theorem AV.deep_one (h : Hp) (x : AV) : (x.deep h).one = x.one := by
  cases x with
  | ow id s off n => rcases seeF_eq h id s off n with e | ⟨l, e⟩ <;> simp [AV.deep, e, AV.one]
  | raw v => rfl
  | _ => simp [AV.deep, AV.one]
mutual
theorem AV.deep_size (h : Hp) : ∀ x : AV, (x.deep h).size = x.size
  | .ow id s off n => by rcases seeF_eq h id s off n with e | ⟨l, e⟩ <;> simp [AV.deep, e, AV.size]
  | .agg l => by simp [AV.deep, AV.size, AV.deeps_sizes h l]
  | .ptr .. | .ep .. | .tup _ | .ifc .. | .fn .. | .any | .raw _ | .sl .. | .fp _ => by simp [AV.deep, AV.size]
theorem AV.deeps_sizes (h : Hp) : ∀ l : List AV, AV.sizes (AV.deeps h l) = AV.sizes l
  | [] => rfl
  | x :: l => by simp [AV.deeps, AV.sizes, AV.deep_size h x, AV.deeps_sizes h l]
end
theorem AV.deeps_mem (h : Hp) : ∀ {l : List AV} {y : AV}, y ∈ AV.deeps h l → ∃ x ∈ l, y = x.deep h
  | x :: l, y, hy => by
    simp only [AV.deeps, List.mem_cons] at hy
    rcases hy with rfl | hy
    · exact ⟨x, by simp, rfl⟩
    · obtain ⟨z, h1, h2⟩ := AV.deeps_mem h hy
      exact ⟨z, by simp [h1], h2⟩
/-- A row of one object, told by content. -/
def FzAt (C : Cx) (h : Hp) : Prop := ∀ id ob, h id = some ob → (∃ sz l, ob = .fz sz l) → HSat C id ob
theorem seeF_at {C : Cx} {h : Hp} (hf : FzAt C h) {id s off n : Nat} {v : Value} (hx : RV C (.ow id s off n) v) : RV C (seeF h (.ow id s off n)) v := by
  by_cases hn : (seeF h (.ow id s off n)).noid = true
  · simp only [seeF] at hn ⊢
    split at hn
    · rename_i q l hob
      split at hn
      · rename_i hc
        obtain ⟨rfl, hc⟩ := hc
        obtain ⟨b, T, c1, h1, h2, h3, h4, h5, h6⟩ := hf id _ hob ⟨_, _, rfl⟩
        rw [if_pos ⟨rfl, hc⟩]
        obtain ⟨d1, d, d2, e1, e2, e3⟩ := h4.cut h5 off n hc
        have hlen : ((l.drop off).take n).length = n := by simp; omega
        cases hx with
        | ow g1 g2 =>
          rw [h1] at g1; cases g1
          subst e1
          have hr := Reads.sub h3
          rw [e2] at hr
          have hmem : ∀ x ∈ (l.drop off).take n, x.size = q := fun x hx => h5 x (List.mem_of_mem_drop (List.mem_of_mem_take hx))
          cases hl : (l.drop off).take n with
          | nil => rw [hl] at hlen; simp at hlen; subst hlen; exact .sl0
          | cons y ys =>
            rw [hl] at e3 hmem hlen
            have := RV.sl (C := C) (sz := q) (c := T - off) e3 hmem h2 (by simpa using hr) (by rw [hlen]; omega)
            rw [hlen] at this
            exact this
        | ow0 g1 g2 =>
          have : ((l.drop off).take 0) = [] := by simp
          rw [this]; exact .sl0
      · simp [AV.noid] at hn
    · simp [AV.noid] at hn
  · rcases seeF_eq h id s off n with e | ⟨l, e⟩
    · rw [e]; exact hx
    · rw [e] at hn; simp [AV.noid] at hn
mutual
theorem RV.deep {C : Cx} {h : Hp} (hf : FzAt C h) {x : AV} {v : Value} (hx : RV C x v) : RV C (x.deep h) v :=
  match hx with
  | .any v => .any v
  | .raw v => .raw v
  | .agg k => .agg (k.deep hf)
  | .tup k => .tup (k.deep hf)
  | .sl0 => .sl0
  | .sl k hs hF hr hc => .sl k hs hF hr hc
  | .fp k hF hr => .fp k hF hr
  | .ptr k => .ptr k
  | .ep k => .ep k
  | .ow k hl => seeF_at hf (.ow k hl)
  | .ow0 k hl => seeF_at hf (.ow0 k hl)
  | .ifc k => .ifc (k.deep hf)
  | .fn h1 h2 => .fn (h1.deep hf) (h2.deep hf)
theorem RC.deep {C : Cx} {h : Hp} (hf : FzAt C h) {x : AV} {cs : List Value} (hx : RC C x cs) : RC C (x.deep h) cs :=
  match hx with
  | .agg k => .agg (k.deep hf)
  | .one k h1 => .one (k.deep hf) (by rw [AV.deep_one]; exact h1)
theorem RCs.deep {C : Cx} {h : Hp} (hf : FzAt C h) {l : List AV} {cs : List Value} (hx : RCs C l cs) : RCs C (AV.deeps h l) cs :=
  match hx with
  | .nil => .nil
  | .cons k k2 => .cons (k.deep hf) (k2.deep hf)
theorem RVs.deep {C : Cx} {h : Hp} (hf : FzAt C h) {l : List AV} {vs : List Value} (hx : RVs C l vs) : RVs C (AV.deeps h l) vs :=
  match hx with
  | .nil => .nil
  | .cons k k2 => .cons (k.deep hf) (k2.deep hf)
end
def Ob.deep (h : Hp) : Ob → Ob
  | .box x => .box (x.deep h)
  | .arr s l => .arr s (AV.deeps h l)
  | x => x
def deepH (h : Hp) : Hp := fun id => (h id).map (Ob.deep h)
theorem Ob.deep_live (h : Hp) (ob : Ob) : (ob.deep h).live = ob.live := by cases ob <;> rfl
theorem HOk.fzAt {C : Cx} {h : Hp} (hh : HOk C h) : FzAt C h := fun id ob h1 _ => hh.at_ id ob h1
theorem Weak.deep {e : Nat → AV} {h : Hp} : Weak ⟨e, h⟩ ⟨fun t => (e t).deep h, deepH h⟩ := fun nt C a s => by
  have hf := s.heap.fzAt
  refine ⟨C, rfl, .refl C, s.defers, s.size, fun t => (s.env t).deep hf, ⟨fun id ob hob => ?_, fun id hid => ?_, fun i j b T U o q h1 h2 h3 h4 h5 h6 => ?_, s.heap.apart, s.heap.lt, s.heap.olt, s.heap.gl⟩⟩
  · simp only [deepH, Option.map_eq_some_iff] at hob
    obtain ⟨o, h1, rfl⟩ := hob
    have := s.heap.at_ id o h1
    cases o with
    | box x =>
      obtain ⟨b, T, cs, t, q1, q2, q3, q4⟩ := this
      exact ⟨b, T, cs, t, q1, q2, q3, q4.deep hf⟩
    | arr sz l =>
      obtain ⟨b, T, cs, t, fr, c1, c2, q1, q2, q3, q4, q5, q6, q7, q8⟩ := this
      refine ⟨b, T, cs, t, fr, c1, c2, q1, q2, q3, q4, q5, q6.deep hf, fun y hy => ?_, q8⟩
      obtain ⟨x, hx, rfl⟩ := AV.deeps_mem _ hy
      rw [AV.deep_size]; exact q7 x hx
    | fz sz l => exact this
    | dead => exact this
  · simp only [deepH, Option.map_eq_none_iff] at hid
    exact s.heap.no id hid
  · simp only [deepH, Option.map_eq_some_iff] at h1 h3
    obtain ⟨o', h1, rfl⟩ := h1
    obtain ⟨q', h3, rfl⟩ := h3
    rw [Ob.deep_live] at h2 h4
    exact s.heap.inj i j b T U o' q' h1 h2 h3 h4 h5 h6

/-! Rows within rows. -/
mutual
def AV.rowsOf : AV → List AV
  | .ow id s o n => [.ow id s o n]
  | .agg l => AV.rowsOfs l
  | .tup l => AV.rowsOfs l
  | .ifc _ x => x.rowsOf
  | .fn _ l m => AV.rowsOfs l ++ AV.rowsOfs m
  | _ => []
def AV.rowsOfs : List AV → List AV
  | [] => []
  | x :: l => x.rowsOf ++ AV.rowsOfs l
end
def frzY (g : Hp) (id : Nat) : Hp := match g id with
  | some (.arr s l) => if AV.noids (AV.deeps g l) = true then setH g id (.fz s (AV.deeps g l)) else g
  | _ => g
def frzX (h : Hp) : AV → Hp
  | .ow id _ _ _ => match h id with
    | some (.arr _ l) => frzY (frzL h (AV.rowsOfs l)) id
    | _ => h
  | _ => h
def frzA (h : Hp) : List AV → Hp
  | [] => h
  | x :: l => frzA (frzX h x) l
theorem arr_deep_sat (s : Sat nt C σ a) {id sz : Nat} {l : List AV} (hob : σ.heap id = some (.arr sz l)) : Sat nt C ⟨σ.env, setH σ.heap id (.arr sz (AV.deeps σ.heap l))⟩ a := by
  have hf := s.heap.fzAt
  refine ⟨s.defers, s.size, s.env, ⟨fun i ob hi => ?_, fun i hi => ?_, fun i j b T U o q h1 h2 h3 h4 h5 h6 => ?_, s.heap.apart, s.heap.lt, s.heap.olt, s.heap.gl⟩⟩
  · simp only [setH] at hi
    split at hi
    · rename_i e; subst e; cases hi
      obtain ⟨b, T, cs, t, fr, c1, c2, q1, q2, q3, q4, q5, q6, q7, q8⟩ := s.heap.at_ _ _ hob
      refine ⟨b, T, cs, t, fr, c1, c2, q1, q2, q3, q4, q5, q6.deep hf, fun y hy => ?_, q8⟩
      obtain ⟨x, hx, rfl⟩ := AV.deeps_mem _ hy
      rw [AV.deep_size]; exact q7 x hx
    · exact s.heap.at_ i ob hi
  · simp only [setH] at hi
    split at hi
    · cases hi
    · exact s.heap.no i hi
  · have g : ∀ k (w : Ob), setH σ.heap id (.arr sz (AV.deeps σ.heap l)) k = some w → w.live = true → ∃ w', σ.heap k = some w' ∧ w'.live = true := by
      intro k w hk hw
      simp only [setH] at hk
      split at hk
      · rename_i e; subst e; exact ⟨_, hob, rfl⟩
      · exact ⟨w, hk, hw⟩
    obtain ⟨o', g1, g2⟩ := g i o h1 h2
    obtain ⟨q', g3, g4⟩ := g j q h3 h4
    exact s.heap.inj i j b T U o' q' g1 g2 g3 g4 h5 h6
theorem frzY_sat (s : Sat nt C σ a) (id : Nat) : ∃ C', C'.W = C.W ∧ C'.ι = C.ι ∧ (∀ b, C'.O b → C.O b) ∧ Ext C C' ∧ Up C C' ∧ Sat nt C' ⟨σ.env, frzY σ.heap id⟩ a := by
  have same : ∃ C', C'.W = C.W ∧ C'.ι = C.ι ∧ (∀ b, C'.O b → C.O b) ∧ Ext C C' ∧ Up C C' ∧ Sat nt C' ⟨σ.env, σ.heap⟩ a := ⟨C, rfl, rfl, fun _ h => h, .refl C, .refl C, s⟩
  unfold frzY
  split
  · rename_i sz l hob
    split
    · rename_i hn
      have s1 := arr_deep_sat s hob
      obtain ⟨C', h1, h2, h3, h4, h5, h6⟩ := freeze_sat (σ := ⟨σ.env, setH σ.heap id (.arr sz (AV.deeps σ.heap l))⟩) s1 (id := id) (sz := sz) (l := AV.deeps σ.heap l) (by simp [setH]) hn
      refine ⟨C', h1, h2, h3, h4, h5, ?_⟩
      have e : setH (setH σ.heap id (.arr sz (AV.deeps σ.heap l))) id (.fz sz (AV.deeps σ.heap l)) = setH σ.heap id (.fz sz (AV.deeps σ.heap l)) := by
        funext i; simp only [setH]; split <;> rfl
      rw [e] at h6
      exact h6
    · exact same
  · exact same
theorem frzX_sat (s : Sat nt C σ a) (x : AV) : ∃ C', C'.W = C.W ∧ C'.ι = C.ι ∧ (∀ b, C'.O b → C.O b) ∧ Ext C C' ∧ Up C C' ∧ Sat nt C' ⟨σ.env, frzX σ.heap x⟩ a := by
  have same : ∃ C', C'.W = C.W ∧ C'.ι = C.ι ∧ (∀ b, C'.O b → C.O b) ∧ Ext C C' ∧ Up C C' ∧ Sat nt C' ⟨σ.env, σ.heap⟩ a := ⟨C, rfl, rfl, fun _ h => h, .refl C, .refl C, s⟩
  cases x with
  | ow id sz o n =>
    simp only [frzX]
    split
    · rename_i l hob
      obtain ⟨C1, h1, h2, h3, h4, h5, h6⟩ := frzL_sat (AV.rowsOfs l) s
      obtain ⟨C2, k1, k2, k3, k4, k5, k6⟩ := frzY_sat h6 id
      exact ⟨C2, k1.trans h1, k2.trans h2, fun b hb => h3 b (k3 b hb), h4.trans k4, h5.trans k5, k6⟩
    · exact same
  | _ => exact same
theorem frzA_sat : ∀ (l : List AV) {C : Cx} {σ : St}, Sat nt C σ a → ∃ C', C'.W = C.W ∧ C'.ι = C.ι ∧ (∀ b, C'.O b → C.O b) ∧ Ext C C' ∧ Up C C' ∧ Sat nt C' ⟨σ.env, frzA σ.heap l⟩ a
  | [], C, σ, s => ⟨C, rfl, rfl, fun _ h => h, .refl C, .refl C, s⟩
  | x :: l, C, σ, s => by
    obtain ⟨C1, h1, h2, h3, h4, h5, h6⟩ := frzX_sat s x
    obtain ⟨C2, k1, k2, k3, k4, k5, k6⟩ := frzA_sat l h6
    exact ⟨C2, k1.trans h1, k2.trans h2, fun b hb => h3 b (k3 b hb), h4.trans k4, h5.trans k5, k6⟩

/-- The contract, used: nothing that the caller owns is changed. -/
theorem call_core {f : FuncId} {ys : List AV} {vs : List Value} {r : AV} {h : Hp} {e : Nat → AV} {nt : Nat} {a : Act} (s : Sat nt C ⟨e, h⟩ a) (hvs : RVs C.bare ys vs) (hr : CallD P f ys noHeap r noHeap) :
    Calls P f vs.toArray C.W fun en W' => ∃ v C2, en = .returned v ∧ C2.W = W' ∧ Ext C C2 ∧ Up C C2 ∧ C2.O = C.O ∧ C2.ι = C.ι ∧ Sat nt C2 ⟨e, h⟩ a ∧ RV C2 r v ∧ ∀ b, b < C.W.heap.size → C2.W.heap[b]? = C.W.heap[b]? := by
  let C1 : Cx := { W := C.W, F := C.F, O := fun _ => False, ι := fun _ => none }
  have hC : HOk C1 noHeap := ⟨fun id ob h => (by cases h), fun _ _ => rfl, fun i j b T U o q h => (by cases h), fun _ (h : False) => h.elim, s.heap.lt, fun _ (h : False) => h.elim, s.heap.gl⟩
  have hup : Up C.bare C1 := ⟨fun _ h => h, fun _ _ => rfl, fun _ _ h => by cases h⟩
  refine Calls.mono (hr C1 vs hC (hvs.up hup)) ?_
  rintro en W' ⟨v, C', rfl, rfl, ex, hok, hrv, hkp⟩
  have hh : ∀ b, b < C.W.heap.size → C'.W.heap[b]? = C.W.heap[b]? := fun b hb => ex.heap b hb (fun h => h)
  have hF' : ∀ b, C'.F b → C.F b ∨ C.W.heap.size ≤ b := fun b hb => by
    rcases ex.newF b hb with h | h | h
    · exact .inl h
    · exact h.elim
    · exact .inr h
  let C2 : Cx := { W := C'.W, F := C'.F, O := C.O, ι := C.ι }
  have u : Up C C2 := ⟨ex.F, fun b hb => hh b (s.heap.lt b hb), fun _ _ h => h⟩
  have ex2 : Ext C C2 := ⟨ex.os, ex.tape, ex.output, ex.size, ex.F, fun b hb _ => hh b hb, fun b hb => (hF' b hb).elim .inl (fun h => .inr (.inr h)), fun b hb => .inl hb, fun _ _ _ h => h⟩
  have hok2 : HOk C2 h := ⟨fun id ob g => (s.heap.at_ id ob g).up u (fun b T _ hO _ => ⟨hO, hh b (s.heap.olt b hO)⟩), s.heap.no, s.heap.inj, fun b hO hF => (hF' b hF).elim (s.heap.apart b hO) (fun g => by have := s.heap.olt b hO; omega),
    hok.lt, fun b hO => Nat.lt_of_lt_of_le (s.heap.olt b hO) ex.size, s.heap.gl.up u⟩
  have hr2 : RV C2 r v := by
    have u2 : Up C' C2 := ⟨fun _ h => h, fun _ _ => rfl, fun id p g => by
      have := hok.no id rfl
      rw [this] at g; cases g⟩
    exact hrv.up u2
  exact ⟨v, C2, rfl, rfl, ex2, u, rfl, rfl, ⟨s.defers, s.size, fun t => (s.env t).up u, hok2⟩, hr2, hh⟩

/-- A call that is handed values alone. -/
theorem snd_call0 (s : Sat nt C σ a) {c : Call} {x : Operand} (ho : o.op = .call c) (hc : c.callee = .value x) {f : FuncId} {first cap xs : List AV} (hx : calleeOf (evE σ.env x) = some (f, first, cap)) (hf : isFn P f = true)
    (hxs : first ++ c.args.toList.map (evE σ.env) ++ cap = xs) (hn : AV.noids xs = true) {r : AV} (hr : CallD P f xs noHeap r noHeap) (hd : ∀ d, o.dst = some d → d < nt)
    (K : Act → World → Prop) (Q : Exit → Act → World → Prop) (hk : ∀ C' v, Ext C C' → Sat nt C' ⟨putE σ.env o.dst r, σ.heap⟩ (a.put o.dst v) → K (a.put o.dst v) C'.W) : o.wp P a C.W K Q := by
  obtain ⟨vs, hrun, hvs⟩ := call_run s ho hc hx hf
  rw [hxs] at hvs
  unfold Oper.wp
  rw [hrun]
  refine Calls.mono (call_core s (hvs.bare hn) hr) ?_
  rintro en W' ⟨v, C2, rfl, rfl, ex, u, _, _, s2, hrv, _⟩
  exact hk C2 v ex (put_sat s2 hrv hd)
/-- A call whose rows are lent: what comes back leads nowhere. -/
theorem snd_callB (s : Sat nt C σ a) {c : Call} {x : Operand} (ho : o.op = .call c) (hc : c.callee = .value x) {f : FuncId} {first cap xs : List AV} (hx : calleeOf (evE σ.env x) = some (f, first, cap)) (hf : isFn P f = true)
    (hxs : first ++ c.args.toList.map (evE σ.env) ++ cap = xs) (hn : AV.noids (AV.deeps (frzA σ.heap (AV.rowsOfs xs)) xs) = true) {r : AV} (hr : CallD P f (AV.deeps (frzA σ.heap (AV.rowsOfs xs)) xs) noHeap r noHeap) (hflat : r.flat = true) (hd : ∀ d, o.dst = some d → d < nt)
    (K : Act → World → Prop) (Q : Exit → Act → World → Prop) (hk : ∀ C' v, Ext C C' → Sat nt C' ⟨putE σ.env o.dst r, σ.heap⟩ (a.put o.dst v) → K (a.put o.dst v) C'.W) : o.wp P a C.W K Q := by
  obtain ⟨vs, hrun, hvs⟩ := call_run s ho hc hx hf
  rw [hxs] at hvs
  unfold Oper.wp
  rw [hrun]
  obtain ⟨C1, e1, e2, e3, e4, e5, s1⟩ := frzA_sat (AV.rowsOfs xs) s
  have := call_core s1 (((hvs.up e5).deep s1.heap.fzAt).bare hn) hr
  rw [e1] at this
  refine Calls.mono this ?_
  rintro en W' ⟨v, C2, rfl, rfl, ex, u, _, _, s2, hrv, hh⟩
  let C3 : Cx := { W := C2.W, F := C.F, O := C.O, ι := C.ι }
  have hsz : C.W.heap.size ≤ C2.W.heap.size := by rw [← e1]; exact ex.size
  have u3 : Up C C3 := ⟨fun _ h => h, fun b hb => hh b (s.heap.lt b hb), fun _ _ h => h⟩
  have ex3 : Ext C C3 := ⟨ex.os.trans e4.os, ex.tape.trans e4.tape, ex.output.trans e4.output, hsz, fun _ h => h, fun b hb _ => hh b hb, fun _ h => .inl h, fun _ h => .inl h, fun _ _ _ h => h⟩
  refine hk C3 v ex3 (put_sat (e := σ.env) (h := σ.heap) ⟨s.defers, s.size, fun t => (s.env t).up u3, ⟨fun id ob g => (s.heap.at_ id ob g).up u3 (fun b T _ hO _ => ⟨hO, hh b (s.heap.olt b hO)⟩), s.heap.no, s.heap.inj, s.heap.apart, fun b hb => Nat.lt_of_lt_of_le (s.heap.lt b hb) hsz, fun b hb => Nat.lt_of_lt_of_le (s.heap.olt b hb) hsz, s.heap.gl.up u3⟩⟩ (hrv.of_flat hflat) hd)

/-! ### Calls that are handed objects -/
mutual
/-- Are all objects that a value leads to among these? -/
def AV.within (hs : Hp) : AV → Bool
  | .ptr id _ | .ep id _ _ _ | .ow id _ _ _ => (hs id).isSome
  | .any => false
  | .agg l => AV.withins hs l
  | .tup l => AV.withins hs l
  | .ifc _ x => x.within hs
  | .fn _ l m => AV.withins hs l && AV.withins hs m
  | _ => true
def AV.withins (hs : Hp) : List AV → Bool
  | [] => true
  | x :: l => x.within hs && AV.withins hs l
end
def subC (C : Cx) (hs : Hp) (O : Nat → Prop) : Cx := { W := C.W, F := C.F, O := O, ι := fun id => if (hs id).isSome then C.ι id else none }
theorem subC_bare (C : Cx) (hs : Hp) (O : Nat → Prop) : Up C.bare (subC C hs O).bare := ⟨fun _ h => h, fun _ _ => rfl, fun _ _ h => by cases h⟩
mutual
theorem RV.sub {C : Cx} {hs : Hp} {O : Nat → Prop} {x : AV} {v : Value} (h : RV C x v) (hn : x.within hs = true) : RV (subC C hs O) x v :=
  match h with
  | .raw v => .raw v
  | .agg h => .agg (h.sub (by simpa [AV.within] using hn))
  | .tup h => .tup (h.sub (by simpa [AV.within] using hn))
  | .sl0 => .sl0
  | .sl h hs hF hr hc => .sl (h.up (subC_bare C _ O)) hs hF hr hc
  | .fp h hF hr => .fp (h.up (subC_bare C _ O)) hF hr
  | .ifc h => .ifc (h.sub (by simpa [AV.within] using hn))
  | .fn h1 h2 => by
    simp [AV.within] at hn
    exact .fn (h1.sub hn.1) (h2.sub hn.2)
  | .any _ => by simp [AV.within] at hn
  | .ptr h => by
    simp [AV.within] at hn
    exact .ptr (by simp [subC, hn]; exact h)
  | .ep h => by
    simp [AV.within] at hn
    exact .ep (by simp [subC, hn]; exact h)
  | .ow h hl => by
    simp [AV.within] at hn
    exact .ow (by simp [subC, hn]; exact h) hl
  | .ow0 h hl => by
    simp [AV.within] at hn
    exact .ow0 (by simp [subC, hn]; exact h) hl
theorem RC.sub {C : Cx} {hs : Hp} {O : Nat → Prop} {x : AV} {cs : List Value} (h : RC C x cs) (hn : x.within hs = true) : RC (subC C hs O) x cs :=
  match h with
  | .agg h => .agg (h.sub (by simpa [AV.within] using hn))
  | .one h h1 => .one (h.sub hn) h1
theorem RCs.sub {C : Cx} {hs : Hp} {O : Nat → Prop} {l : List AV} {cs : List Value} (h : RCs C l cs) (hn : AV.withins hs l = true) : RCs (subC C hs O) l cs :=
  match h with
  | .nil => .nil
  | .cons h h2 => by
    simp [AV.withins] at hn
    exact .cons (h.sub hn.1) (h2.sub hn.2)
theorem RVs.sub {C : Cx} {hs : Hp} {O : Nat → Prop} {l : List AV} {vs : List Value} (h : RVs C l vs) (hn : AV.withins hs l = true) : RVs (subC C hs O) l vs :=
  match h with
  | .nil => .nil
  | .cons h h2 => by
    simp [AV.withins] at hn
    exact .cons (h.sub hn.1) (h2.sub hn.2)
end
def Ob.within (hs : Hp) : Ob → Bool
  | .box x => x.within hs
  | .arr _ l => AV.withins hs l
  | _ => true
/-- The memory behind a call that was handed hs and handed back hs'. -/
def backH (h hs hs' : Hp) : Hp := fun id => if (hs id).isSome then hs' id else if (hs' id).isSome then hs' id else h id

theorem callS_core (s : Sat nt C σ a) {f : FuncId} {xs : List AV} {vs : List Value} (hvs : RVs C xs vs) {hs hs' : Hp} (hsub : ∀ id ob, hs id = some ob → σ.heap id = some ob ∧ ob.within hs = true) (hn : AV.withins hs xs = true) {r : AV} (hr : CallD P f xs hs r hs') (hnew : ∀ id, (hs' id).isSome = true → (hs id).isSome = true ∨ σ.heap id = none) :
    Calls P f vs.toArray C.W fun en W' => ∃ v C2, en = .returned v ∧ C2.W = W' ∧ Ext C C2 ∧ Sat nt C2 ⟨σ.env, backH σ.heap hs hs'⟩ a ∧ RV C2 r v := by
  let O1 : Nat → Prop := fun b => ∃ id ob T, hs id = some ob ∧ ob.live = true ∧ C.ι id = some (b, T) ∧ C.O b
  have hO1 : ∀ b, O1 b → C.O b := fun b ⟨_, _, _, _, _, _, h⟩ => h
  have hι1 : ∀ id ob, hs id = some ob → (subC C hs O1).ι id = C.ι id := fun id ob h => by simp [subC, h]
  have hC : HOk (subC C hs O1) hs := by
    refine ⟨fun id ob h => ?_, fun id h => by simp [subC, h], fun i j b T U o' q h1 h2 h3 h4 h5 h6 => ?_, fun b hb hF => s.heap.apart b (hO1 b hb) hF, s.heap.lt, fun b hb => s.heap.olt b (hO1 b hb), s.heap.gl⟩
    · obtain ⟨h1, h2⟩ := hsub id ob h
      have h3 := s.heap.at_ id ob h1
      have hι := hι1 id ob h
      cases ob with
      | box y =>
        obtain ⟨b, T, cs, t, k1, k2, k3, k4⟩ := h3
        exact ⟨b, T, cs, t, hι.trans k1, ⟨id, _, T, h, rfl, k1, k2⟩, k3, k4.sub h2⟩
      | arr sz l =>
        obtain ⟨b, T, cs, t, fr, c1, c2, k1, k2, k3, k4, k5, k6, k7⟩ := h3
        exact ⟨b, T, cs, t, fr, c1, c2, hι.trans k1, ⟨id, _, T, h, rfl, k1, k2⟩, k3, k4, k5, k6.sub h2, k7⟩
      | fz sz l =>
        obtain ⟨b, T, c1, k1, k2, k3, k4, k5⟩ := h3
        exact ⟨b, T, c1, hι.trans k1, k2, k3, k4.up (subC_bare C hs O1), k5⟩
      | dead =>
        obtain ⟨b, T, k1⟩ := h3
        exact ⟨b, T, hι.trans k1⟩
    · rw [hι1 i _ h1] at h5
      rw [hι1 j _ h3] at h6
      exact s.heap.inj i j b T U o' q (hsub i _ h1).1 h2 (hsub j _ h3).1 h4 h5 h6
  refine Calls.mono (hr (subC C hs O1) vs hC (hvs.sub hn)) ?_
  rintro en W' ⟨v, C', rfl, rfl, ex, hok, hrv, hkp⟩
  have hsz : C.W.heap.size ≤ C'.W.heap.size := ex.size
  have hh : ∀ b, b < C.W.heap.size → ¬ O1 b → C'.W.heap[b]? = C.W.heap[b]? := fun b hb hn => ex.heap b hb hn
  have hF' : ∀ b, C'.F b → C.F b ∨ O1 b ∨ C.W.heap.size ≤ b := ex.newF
  have hO' : ∀ b, C'.O b → O1 b ∨ C.W.heap.size ≤ b := ex.newO
  have hkeep : ∀ id ob, hs id = some ob → C'.ι id = C.ι id := by
    intro id ob h
    cases hq : C.ι id with
    | none =>
      obtain ⟨h1, _⟩ := hsub id ob h
      have h3 := s.heap.at_ id ob h1
      exfalso
      cases ob with
      | box y => obtain ⟨b, T, cs, t, k1, _⟩ := h3; rw [hq] at k1; cases k1
      | arr sz l => obtain ⟨b, T, cs, t, fr, c1, c2, k1, _⟩ := h3; rw [hq] at k1; cases k1
      | fz sz l => obtain ⟨b, T, c1, k1, _⟩ := h3; rw [hq] at k1; cases k1
      | dead => obtain ⟨b, T, k1⟩ := h3; rw [hq] at k1; cases k1
    | some p => exact hkp id p ((hι1 id ob h).trans hq)
  let C2 : Cx := { W := C'.W, F := C'.F, O := fun b => (C.O b ∧ ¬ O1 b) ∨ C'.O b, ι := fun id => if (hs' id).isSome ∧ ¬ (hs id).isSome then C'.ι id else C.ι id }
  have u : Up C C2 := by
    refine ⟨ex.F, fun b hb => hh b (s.heap.lt b hb) (fun ho => s.heap.apart b (hO1 b ho) hb), fun id p hp => ?_⟩
    show (if _ then _ else _) = _
    rw [if_neg]
    · exact hp
    · rintro ⟨h1, h2⟩
      rcases hnew id h1 with h | h
      · exact h2 h
      · rw [s.heap.no id h] at hp; cases hp
  have u' : Up C' C2 := by
    refine ⟨fun _ h => h, fun _ _ => rfl, fun id p hp => ?_⟩
    show (if _ then _ else _) = _
    split
    · exact hp
    · rename_i h1
      cases hi : hs id with
      | some ob => rw [← hkeep id ob hi]; exact hp
      | none =>
        cases hi' : hs' id with
        | some ob => exact absurd ⟨by rw [hi']; rfl, by rw [hi]; simp⟩ h1
        | none => rw [hok.no id hi'] at hp; cases hp
  have old : ∀ id ob, hs id = none → hs' id = none → σ.heap id = some ob → HSat C2 id ob ∧ C2.ι id = C.ι id := by
    intro id ob h1 h2 h3
    have e1 : C2.ι id = C.ι id := by
      show (if _ then _ else _) = _
      rw [if_neg (by rw [h2]; simp)]
    refine ⟨(s.heap.at_ id ob h3).up u fun b T k1 k2 k3 => ?_, e1⟩
    have hno : ¬ O1 b := by
      rintro ⟨i, o', T', g1, g2, g3, _⟩
      have := s.heap.inj id i b T T' ob o' h3 k3 (hsub i o' g1).1 g2 k1 g3
      rw [this, g1] at h1; cases h1
    exact ⟨.inl ⟨k2, hno⟩, hh b (s.heap.olt b k2) hno⟩
  have new : ∀ id ob, hs' id = some ob → HSat C2 id ob := fun id ob h => (hok.at_ id ob h).up u' fun b T k1 k2 k3 => ⟨.inr k2, rfl⟩
  have ex2 : Ext C C2 := by
    refine ⟨ex.os, ex.tape, ex.output, hsz, ex.F, fun b hb hn => hh b hb (fun h => hn (hO1 b h)), fun b hb => ?_, fun b hb => ?_, fun id p _ h => u.ι id p h⟩
    · rcases hF' b hb with h | h | h
      · exact .inl h
      · exact .inr (.inl (hO1 b h))
      · exact .inr (.inr h)
    · rcases hb with hb | hb
      · exact .inl hb.1
      · exact (hO' b hb).imp (hO1 b) id
  have hsat : Sat nt C2 ⟨σ.env, backH σ.heap hs hs'⟩ a := by
    refine ⟨s.defers, s.size, fun t => (s.env t).up u, ⟨fun id ob h => ?_, fun id h => ?_, fun i j b T U o' q h1 h2 h3 h4 h5 h6 => ?_, fun b hb hF => ?_, hok.lt, fun b hb => ?_, s.heap.gl.up u⟩⟩
    · simp only [backH] at h
      split at h
      · exact new id ob h
      · split at h
        · exact new id ob h
        · rename_i g1 g2
          exact (old id ob (by simpa using g1) (by simpa using g2) h).1
    · simp only [backH] at h
      split at h
      · rename_i g1
        obtain ⟨ob, hob⟩ := Option.isSome_iff_exists.1 g1
        show (if _ then _ else _) = _
        rw [if_neg (by rw [h]; simp), ← hkeep id ob hob]
        exact hok.no id h
      · split at h
        · rename_i g2; rw [h] at g2; cases g2
        · rename_i g1 g2
          show (if _ then _ else _) = _
          rw [if_neg (by simp [g2])]
          exact s.heap.no id h
    · have cl : ∀ k (w : Ob), backH σ.heap hs hs' k = some w → (hs' k = some w ∧ C2.ι k = C'.ι k) ∨ (hs k = none ∧ hs' k = none ∧ σ.heap k = some w ∧ C2.ι k = C.ι k) := by
        intro k w hk
        simp only [backH] at hk
        split at hk
        · rename_i g1
          obtain ⟨ob, hob⟩ := Option.isSome_iff_exists.1 g1
          refine .inl ⟨hk, ?_⟩
          show (if _ then _ else _) = _
          rw [if_neg (by simp [g1]), hkeep k ob hob]
        · split at hk
          · rename_i g1 g2
            refine .inl ⟨hk, ?_⟩
            show (if _ then _ else _) = _
            rw [if_pos ⟨g2, g1⟩]
          · rename_i g1 g2
            have g1 : hs k = none := by simpa using g1
            have g2 : hs' k = none := by simpa using g2
            exact .inr ⟨g1, g2, hk, (old k w g1 g2 hk).2⟩
      have oldb : ∀ k (w : Ob) b T, hs k = none → σ.heap k = some w → w.live = true → C.ι k = some (b, T) → C.O b ∧ ¬ O1 b := by
        intro k w b T k0 k1 k2 k3
        obtain ⟨b2, T2, e, hO⟩ := (s.heap.at_ k w k1).live_at k2
        rw [k3] at e; cases e
        refine ⟨hO, ?_⟩
        rintro ⟨i, o', T', g1, g2, g3, _⟩
        have := s.heap.inj k i b T T' w o' k1 k2 (hsub i o' g1).1 g2 k3 g3
        rw [this, g1] at k0; cases k0
      have newb : ∀ k (w : Ob) b T, hs' k = some w → w.live = true → C'.ι k = some (b, T) → C'.O b := by
        intro k w b T k1 k2 k3
        obtain ⟨b2, T2, e, hO⟩ := (hok.at_ k w k1).live_at k2
        rw [k3] at e; cases e
        exact hO
      rcases cl i o' h1 with ⟨a1, a2⟩ | ⟨a0, a0', a1, a2⟩ <;> rcases cl j q h3 with ⟨b1, b2⟩ | ⟨b0, b0', b1, b2⟩ <;> rw [a2] at h5 <;> rw [b2] at h6
      · exact hok.inj i j b T U o' q a1 h2 b1 h4 h5 h6
      · obtain ⟨x1, x2⟩ := oldb j q b U b0 b1 h4 h6
        rcases hO' b (newb i o' b T a1 h2 h5) with h | h
        · exact absurd h x2
        · have := s.heap.olt b x1; omega
      · obtain ⟨x1, x2⟩ := oldb i o' b T a0 a1 h2 h5
        rcases hO' b (newb j q b U b1 h4 h6) with h | h
        · exact absurd h x2
        · have := s.heap.olt b x1; omega
      · exact s.heap.inj i j b T U o' q a1 h2 b1 h4 h5 h6
    · rcases hb with hb | hb
      · rcases hF' b hF with h | h | h
        · exact s.heap.apart b hb.1 h
        · exact hb.2 h
        · have := s.heap.olt b hb.1; omega
      · exact hok.apart b hb hF
    · rcases hb with hb | hb
      · exact Nat.lt_of_lt_of_le (s.heap.olt b hb.1) hsz
      · exact hok.olt b hb
  exact ⟨v, C2, rfl, rfl, ex2, hsat, hrv.up u'⟩
/-- A call that is handed objects, and rows that are only read from then on. -/
theorem snd_callS (s : Sat nt C σ a) {c : Call} {x : Operand} (ho : o.op = .call c) (hc : c.callee = .value x) {f : FuncId} {first cap xs : List AV} (hx : calleeOf (evE σ.env x) = some (f, first, cap)) (hf : isFn P f = true)
    (hxs : first ++ c.args.toList.map (evE σ.env) ++ cap = xs) {hs hs' : Hp} (hsub : ∀ id ob, hs id = some ob → frzA σ.heap (AV.rowsOfs xs) id = some ob ∧ ob.within hs = true) (hn : AV.withins hs (AV.deeps (frzA σ.heap (AV.rowsOfs xs)) xs) = true) {r : AV} (hr : CallD P f (AV.deeps (frzA σ.heap (AV.rowsOfs xs)) xs) hs r hs') (hnew : ∀ id, (hs' id).isSome = true → (hs id).isSome = true ∨ frzA σ.heap (AV.rowsOfs xs) id = none)
    (hd : ∀ d, o.dst = some d → d < nt)
    (K : Act → World → Prop) (Q : Exit → Act → World → Prop) (hk : ∀ C' v, Ext C C' → Sat nt C' ⟨putE σ.env o.dst r, backH (frzA σ.heap (AV.rowsOfs xs)) hs hs'⟩ (a.put o.dst v) → K (a.put o.dst v) C'.W) : o.wp P a C.W K Q := by
  obtain ⟨vs, hrun, hvs⟩ := call_run s ho hc hx hf
  rw [hxs] at hvs
  unfold Oper.wp
  rw [hrun]
  obtain ⟨C1, e1, e2, e3, e4, e5, s1⟩ := frzA_sat (AV.rowsOfs xs) s
  have := callS_core s1 ((hvs.up e5).deep s1.heap.fzAt) hsub hn hr hnew
  rw [e1] at this
  refine Calls.mono this ?_
  rintro en W' ⟨v, C2, rfl, rfl, ex, hsat, hrv⟩
  exact hk C2 v (e4.trans ex) (put_sat hsat hrv hd)
theorem noid_within : (∀ x : AV, x.noid = true → x.within noHeap = true) ∧ ∀ l : List AV, AV.noids l = true → AV.withins noHeap l = true := by
  refine ⟨fun x => ?_, fun l => ?_⟩
  · refine AV.rec (motive_1 := fun x => x.noid = true → x.within noHeap = true) (motive_2 := fun l => AV.noids l = true → AV.withins noHeap l = true) ?_ ?_ ?_ ?_ ?_ ?_ ?_ ?_ ?_ ?_ ?_ ?_ ?_ x <;> intros <;> simp_all [AV.noid, AV.within, AV.noids, AV.withins]
  · refine AV.rec_1 (motive_1 := fun x => x.noid = true → x.within noHeap = true) (motive_2 := fun l => AV.noids l = true → AV.withins noHeap l = true) ?_ ?_ ?_ ?_ ?_ ?_ ?_ ?_ ?_ ?_ ?_ ?_ ?_ l <;> intros <;> simp_all [AV.noid, AV.within, AV.noids, AV.withins]
theorem backH_new {h : Hp} {q : Nat} {ob : Ob} : backH h noHeap (setH noHeap q ob) = setH h q ob := by
  funext id
  simp only [backH, noHeap, setH]
  by_cases e : id = q <;> simp [e]
theorem snd_callO (s : Sat nt C σ a) {c : Call} {x : Operand} (ho : o.op = .call c) (hc : c.callee = .value x) {f : FuncId} {first cap xs : List AV} (hx : calleeOf (evE σ.env x) = some (f, first, cap)) (hf : isFn P f = true)
    (hxs : first ++ c.args.toList.map (evE σ.env) ++ cap = xs) (hn : AV.noids xs = true) {r : AV} {q : Nat} {ob : Ob} (hq : σ.heap q = none) (hr : CallD P f xs noHeap r (setH noHeap q ob)) (hd : ∀ d, o.dst = some d → d < nt)
    (K : Act → World → Prop) (Q : Exit → Act → World → Prop) (hk : ∀ C' v, Ext C C' → Sat nt C' ⟨putE σ.env o.dst r, setH σ.heap q ob⟩ (a.put o.dst v) → K (a.put o.dst v) C'.W) : o.wp P a C.W K Q := by
  obtain ⟨vs, hrun, hvs⟩ := call_run s ho hc hx hf
  rw [hxs] at hvs
  unfold Oper.wp
  rw [hrun]
  have := callS_core s hvs (hs := noHeap) (hs' := setH noHeap q ob) (fun id ob h => by cases h) (noid_within.2 _ hn) hr (fun id h => by
    by_cases e : id = q
    · subst e; exact .inr hq
    · simp [setH, e, noHeap] at h)
  rw [backH_new] at this
  refine Calls.mono this ?_
  rintro en W' ⟨v, C2, rfl, rfl, ex, hsat, hrv⟩
  exact hk C2 v ex (put_sat hsat hrv hd)
/-- A call of a function that is handed nothing, and makes a row: its own name for the row. -/
theorem snd_callN (s : Sat nt C σ a) {c : Call} {x : Operand} (ho : o.op = .call c) (hc : c.callee = .value x) {f : FuncId} {first cap xs : List AV} (hx : calleeOf (evE σ.env x) = some (f, first, cap)) (hf : isFn P f = true)
    (hxs : first ++ c.args.toList.map (evE σ.env) ++ cap = xs) (hn : AV.noids xs = true) {r : AV} {q : Nat} (hq : σ.heap q = none) (hr : CallD P f xs noHeap r noHeap) (hd : ∀ d, o.dst = some d → d < nt)
    (K : Act → World → Prop) (Q : Exit → Act → World → Prop) (hk : ∀ C' v, Ext C C' → Sat nt C' ⟨putE σ.env o.dst r, setH σ.heap q .dead⟩ (a.put o.dst v) → K (a.put o.dst v) C'.W) : o.wp P a C.W K Q := by
  obtain ⟨vs, hrun, hvs⟩ := call_run s ho hc hx hf
  rw [hxs] at hvs
  unfold Oper.wp
  rw [hrun]
  refine Calls.mono (call_core s (hvs.bare hn) hr) ?_
  rintro en W' ⟨v, C2, rfl, rfl, ex, u, e1, e2, s2, hrv, hh⟩
  let C3 : Cx := { C2 with ι := fun i => if i = q then some (0, 0) else C2.ι i }
  have hq2 : C2.ι q = none := s2.heap.no q hq
  have u3 : Up C2 C3 := ⟨fun _ h => h, fun _ _ => rfl, fun i p hp => by
    show (if _ then _ else _) = _
    rw [if_neg (fun e => by subst e; rw [hq2] at hp; cases hp)]; exact hp⟩
  have ex3 : Ext C2 C3 := ⟨rfl, rfl, rfl, Nat.le_refl _, fun _ h => h, fun _ _ _ => rfl, fun _ h => .inl h, fun _ h => .inl h, fun i p _ h => u3.ι i p h⟩
  have s3 : Sat nt C3 ⟨σ.env, setH σ.heap q .dead⟩ a := by
    refine ⟨s2.defers, s2.size, fun t => (s2.env t).up u3, ⟨fun i ob hi => ?_, fun i hi => ?_, fun i j b T U o w h1 h2 h3 h4 h5 h6 => ?_, s2.heap.apart, s2.heap.lt, s2.heap.olt, s2.heap.gl.up u3⟩⟩
    · simp only [setH] at hi
      split at hi
      · rename_i e; subst e; cases hi
        exact ⟨0, 0, by simp [C3]⟩
      · exact (s2.heap.at_ i ob hi).up u3 fun b T _ hO _ => ⟨hO, rfl⟩
    · simp only [setH] at hi
      split at hi
      · cases hi
      · rename_i e
        show (if _ then _ else _) = _
        rw [if_neg e]; exact s2.heap.no i hi
    · have g : ∀ k (w : Ob), setH σ.heap q .dead k = some w → w.live = true → k ≠ q ∧ σ.heap k = some w := by
        intro k w hk hw
        simp only [setH] at hk
        split at hk
        · cases hk; simp [Ob.live] at hw
        · exact ⟨‹_›, hk⟩
      obtain ⟨g1, g2⟩ := g i o h1 h2
      obtain ⟨g3, g4⟩ := g j w h3 h4
      have k1 : C2.ι i = some (b, T) := by
        have : (if i = q then some (0, 0) else C2.ι i) = some (b, T) := h5
        rwa [if_neg g1] at this
      have k2 : C2.ι j = some (b, U) := by
        have : (if j = q then some (0, 0) else C2.ι j) = some (b, U) := h6
        rwa [if_neg g3] at this
      exact s2.heap.inj i j b T U o w g2 h2 g4 h4 k1 k2
  exact hk C3 v (ex.trans ex3) (put_sat s3 (hrv.up u3) hd)
end Go.Proofs.Ytejeemhenoobjaa.Asl

