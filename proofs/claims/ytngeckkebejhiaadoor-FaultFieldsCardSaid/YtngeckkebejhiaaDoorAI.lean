/- Values built; texts and bytes; assertions; comparisons with nil. -/
import Derived.Test.YtngeckkebejhiaaDoorAH
import Derived.Lib.ConvBytes
namespace Go.Proofs.YtngeckkebejhiaaDoor.Asl
open Go Go.RowKit
set_option linter.unusedVariables false
set_option linter.unusedSimpArgs false
variable {P : Program} {nt : Nat} {C : Cx} {σ : St} {a : Act} {o : Oper}

/-! ### Literals -/
def setAll : List AV → List (Nat × AV) → Option (List AV)
  | zs, [] => some zs
  | zs, (i, y) :: r => match zs[i]? with
    | some z => if z.size = y.size ∧ (y.isAgg = true ∨ y.one = true) then setAll (zs.set i y) r else none
    | none => none
theorem foldl_seg {off : Nat} : ∀ (c : List Value) (k : Nat) (p q r : List Value), q.length = c.length → p.length = off + k → (c.zipIdx k).foldl (fun (cs : Array Value) (x : Value × Nat) => cs.setIfInBounds (off + x.2) x.1) (p ++ q ++ r).toArray = (p ++ c ++ r).toArray
  | [], k, p, q, r, h, _ => by
    have : q = [] := List.eq_nil_of_length_eq_zero h
    subst this; simp
  | x :: c, k, p, q, r, h, hp => by
    cases q with
    | nil => simp at h
    | cons y q =>
      rw [List.zipIdx_cons, List.foldl_cons]
      have e : ((p ++ (y :: q) ++ r).toArray.setIfInBounds (off + k) x) = ((p ++ [x]) ++ q ++ r).toArray := by
        rw [List.setIfInBounds_toArray, ← hp]; simp
      rw [e, foldl_seg c (k + 1) (p ++ [x]) q r (by simpa using h) (by simp; omega)]
      simp
theorem RCs.set_at {C : Cx} {l : List AV} {cs : List Value} (h : RCs C l cs) {i : Nat} {z y : AV} (hi : l[i]? = some z) {d : List Value} (hy : RC C y d) (hd : d.length = z.size) :
    ∃ c1 c c2, cs = c1 ++ c ++ c2 ∧ c1.length = AV.sizes (l.take i) ∧ c.length = z.size ∧ RCs C (l.set i y) (c1 ++ d ++ c2) := by
  have hlt := (List.getElem?_eq_some_iff.1 hi).1
  have hx := (List.getElem?_eq_some_iff.1 hi).2
  have e : l = l.take i ++ (z :: l.drop (i + 1)) := by rw [← hx, List.getElem_cons_drop, List.take_append_drop]
  have es : l.set i y = l.take i ++ (y :: l.drop (i + 1)) := by rw [List.set_eq_take_append_cons_drop, if_pos hlt]
  rw [e] at h
  obtain ⟨c1, c2, rfl, h1, h2⟩ := h.split
  cases h2 with
  | cons p1 p2 =>
    rename_i ca cb
    refine ⟨c1, ca, cb, by simp, h1.len, p1.len, ?_⟩
    rw [es, List.append_assoc]
    exact h1.append (.cons hy p2)
theorem sizes_set {l : List AV} {i : Nat} {z y : AV} (hi : l[i]? = some z) (hs : z.size = y.size) (j : Nat) : AV.sizes ((l.set i y).take j) = AV.sizes (l.take j) := by
  have e : ∀ (l : List AV) (i j : Nat), l[i]? = some z → AV.sizes ((l.set i y).take j) = AV.sizes (l.take j) := by
    intro l
    induction l with
    | nil => intro i j h; simp at h
    | cons x l ih =>
      intro i j h
      cases j with
      | zero => simp
      | succ j =>
        cases i with
        | zero => simp at h; subst h; simp [AV.sizes, hs]
        | succ i => simp at h; simp [AV.sizes, ih i j h]
  exact e l i j hi
/-- The parts are laid where the layout says. -/
theorem fill_ok {place : Nat → Option (Nat × Nat)} : ∀ (ps : List (Nat × AV)) (vs : List (Nat × Value)) (zs l : List AV) (cs : Array Value), RCs C zs cs.toList → vs.map (·.1) = ps.map (·.1) → RVs C (ps.map (·.2)) (vs.map (·.2)) → setAll zs ps = some l →
    (∀ i z, zs[i]? = some z → place i = some (AV.sizes (zs.take i), z.size)) → ∃ cs', Instr.fill place cs vs = some cs' ∧ RCs C l cs'.toList
  | [], vs, zs, l, cs, h, h1, h2, h3, h4 => by
    have : vs = [] := List.eq_nil_of_length_eq_zero (by have := congrArg List.length h1; simpa using this)
    subst this
    simp [setAll] at h3; subst h3
    exact ⟨cs, rfl, h⟩
  | (i, y) :: ps, vs, zs, l, cs, h, h1, h2, h3, h4 => by
    cases vs with
    | nil => simp at h1
    | cons v vs =>
      obtain ⟨j, v⟩ := v
      simp only [List.map_cons, List.cons.injEq] at h1
      obtain ⟨rfl, h1⟩ := h1
      cases h2 with
      | cons hv h2 =>
        simp only [setAll] at h3
        cases hz : zs[j]? with
        | none => rw [hz] at h3; cases h3
        | some z =>
          rw [hz] at h3
          simp only at h3
          split at h3
          · rename_i hc
            have hvc := hv.cells hc.2
            have hvl : v.cells.toList.length = z.size := by rw [hvc.len, hc.1]
            obtain ⟨c1, c, c2, e, e1, e2, e3⟩ := h.set_at hz hvc hvl
            have hcs : cs = (c1 ++ c ++ c2).toArray := by rw [← e]
            subst hcs
            simp only [Instr.fill, h4 j z hz]
            have hsz : v.cells.size = z.size := by simpa using hvl
            rw [if_neg (by simp [hsz, ← e1, e2])]
            have hfold : (v.cells.zipIdx.foldl (fun cs x => cs.setIfInBounds (AV.sizes (zs.take j) + x.2) x.1) (c1 ++ c ++ c2).toArray) = (c1 ++ v.cells.toList ++ c2).toArray := by
              rw [← Array.foldl_toList, Array.toList_zipIdx]
              exact foldl_seg v.cells.toList 0 c1 c c2 (by rw [e2, hvl]) (by rw [e1]; rfl)
            rw [hfold]
            exact fill_ok ps vs (zs.set j y) l _ (by simpa using e3) h1 h2 h3 (fun k w hk => by
              rw [sizes_set hz hc.1]
              by_cases hjk : k = j
              · subst hjk
                have hlt := (List.getElem?_eq_some_iff.1 hz).1
                rw [List.getElem?_set_self hlt] at hk
                cases hk
                rw [← hc.1]; exact h4 k z hz
              · rw [List.getElem?_set_ne (fun h => hjk h.symm)] at hk
                exact h4 k w hk)
          · cases h3

def pmap (e : Operand → AV) (parts : Array (Nat × Operand)) : List (Nat × AV) := parts.toList.map fun p => (p.1, e p.2)
theorem parts_ok (s : Sat nt C σ a) (parts : Array (Nat × Operand)) : ((parts.map fun (x : Nat × Operand) => (x.1, a.eval x.2)).toList).map (·.1) = (pmap (evE σ.env) parts).map (·.1) ∧ RVs C ((pmap (evE σ.env) parts).map (·.2)) (((parts.map fun (x : Nat × Operand) => (x.1, a.eval x.2)).toList).map (·.2)) := by
  refine ⟨by simp [pmap], ?_⟩
  have := s.evs (parts.toList.map (·.2))
  simpa [pmap, List.map_map, Function.comp_def] using this

/-- A struct type's layout: where each field lies, as its zero value's parts tell it. -/
def layIs (P : Program) (t : TypeId) (zs : List AV) : Prop := ∃ fs, P.underlying t = some (.struct fs) ∧ fs.size = zs.length ∧ ∀ i d z, fs[i]? = some d → zs[i]? = some z → d.offset = AV.sizes (zs.take i) ∧ (P.info? d.type).map (·.size) = some z.size
theorem mapM_run {α β : Type} {w : World} (f : α → Sem β) (g : α → β) : ∀ (l : List α), (∀ x ∈ l, (f x).run P w = .ok (g x) w) → (l.mapM f).run P w = .ok (l.map g) w
  | [], _ => rfl
  | x :: l, h => by
    rw [List.mapM_cons, Sem.run_bind, h x (by simp)]
    simp only [Result.andThen_ok, Sem.run_bind]
    rw [mapM_run f g l (fun y hy => h y (by simp [hy]))]
    rfl
theorem snd_build (s : Sat nt C σ a) {t : TypeId} {parts : Array (Nat × Operand)} (ho : o.op = .build t parts) {zs l : List AV} (hz : zeroIs P t (.agg zs)) (hl : layIs P t zs) (h : setAll zs (pmap (evE σ.env) parts) = some l) : Res P nt C σ a o (.agg l) σ.heap := by
  obtain ⟨v, hzr, hzv, _⟩ := hz.run (C := C) C.W
  obtain ⟨cs, rfl, hzc⟩ := hzv.agg_inv
  obtain ⟨fs, hu, hn, hlay⟩ := hl
  obtain ⟨h1, h2⟩ := parts_ok s parts
  have hmap : (fs.mapM (m := Sem) fun f => do pure (f.offset, ← sizeOf f.type)).run P C.W = .ok (fs.map fun f => (f.offset, P.cellsOf f.type)) C.W := by
    rw [← Array.toArray_toList (xs := fs), List.mapM_toArray, Sem.run_map, mapM_run _ (fun f => (f.offset, P.cellsOf f.type))]
    · simp only [Result.andThen_ok]
      congr 1
      apply Array.toList_inj.1
      simp
    · intro f hf
      obtain ⟨i, hi, rfl⟩ := List.getElem_of_mem hf
      have hi2 : i < fs.size := by simpa using hi
      have hz : zs[i]? = some zs[i] := List.getElem?_eq_getElem (by omega)
      obtain ⟨_, hs⟩ := hlay i fs[i] zs[i] (Array.getElem?_eq_getElem hi2) hz
      obtain ⟨ti, hti, _⟩ := Option.map_eq_some_iff.1 hs
      simp [sizeOf, typeInfo, program, Sem.run, hti, Program.cellsOf]
  obtain ⟨cs', hf, hc⟩ := fill_ok (place := fun i => (fs.map fun f => (f.offset, P.cellsOf f.type))[i]?) _ _ zs l cs.toArray (by simpa using hzc) h1 h2 h (fun i z hi => by
    have hlt := (List.getElem?_eq_some_iff.1 hi).1
    have hi2 : i < fs.size := by omega
    obtain ⟨e1, e2⟩ := hlay i fs[i] z (Array.getElem?_eq_getElem hi2) hi
    obtain ⟨ti, hti, hsz⟩ := Option.map_eq_some_iff.1 e2
    simp [hi2, e1, Program.cellsOf, hti, hsz])
  refine .mk s (v := .agg cs') ?_ (by have := RV.agg hc; simpa using this)
  simp only [Array.getElem?_map] at hf
  simp [execOp, ho, Instr.build, hzr, Value.cells, underlying, program, Sem.run, hu]
  simp at hmap
  rw [hmap]
  simp only [Array.toList_map] at hf
  simp only [Result.andThen_ok, Array.getElem?_map, hf]
  simp [hf]

theorem zeros_RCs {z : AV} {c : List Value} (h : RC C z c) : ∀ n, RCs C (List.replicate n z) (List.replicate n c).flatten
  | 0 => .nil
  | n + 1 => by rw [List.replicate_succ, List.replicate_succ, List.flatten_cons]; exact .cons h (zeros_RCs h n)
theorem range_flat (c : Array Value) {sz : Nat} (hs : c.size = sz) (hp : 0 < sz) : ∀ n, (List.range (n * sz)).map (fun i => c[i % sz]!) = (List.replicate n c.toList).flatten
  | 0 => by simp
  | n + 1 => by
    rw [Nat.succ_mul, List.range_add, List.map_append, range_flat c hs hp n, List.replicate_succ', List.flatten_append, List.map_map]
    congr 1
    simp only [List.flatten_cons, List.flatten_nil, List.append_nil]
    apply List.ext_getElem
    · simp [hs]
    · intro i h1 h2
      have h3 : i < sz := by simpa using h1
      simp [Nat.add_comm, Nat.mod_eq_of_lt h3, hs, h3]
theorem snd_buildSlice (s : Sat nt C σ a) {t : TypeId} {n : Nat} {parts : Array (Nat × Operand)} (ho : o.op = .buildSlice t n parts) {e : TypeId} {sz bytes : Nat} (ht : rowI P t = some (e, sz, bytes)) {z : AV} {l : List AV} (hz : zeroIs P e z) (hzs : z.size = sz) (hn : n * sz ≤ 16777216)
    {d : Nat} (hd : σ.heap d = none) (h : setAll (List.replicate n z) (pmap (evE σ.env) parts) = some l) : Res P nt C σ a o (.ow d sz 0 n) (setH σ.heap d (.arr sz l)) := by
  obtain ⟨hu, ti, zv, hti, hzv, hsz, hby, hzsz, hpos⟩ := rowI_at ht
  obtain ⟨v, hzr, hzv2, hz1⟩ := hz.run (C := C) C.W
  have hzc := hzv2.cells hz1
  have hveq : v = zv := by
    have : (zeroValue e).run P C.W = .ok zv C.W := by simp [zeroValue, typeInfo, program, Sem.run, hti, hzv]
    rw [hzr] at this
    cases this; rfl
  subst hveq
  obtain ⟨h1, h2⟩ := parts_ok s parts
  have hall : ∀ x ∈ List.replicate n z, x.size = sz := fun x hx => by rw [List.eq_of_mem_replicate hx]; exact hzs
  have hflat : ((Array.range (n * sz)).map (v.cells[· % v.cells.size]!)).toList = (List.replicate n v.cells.toList).flatten := by
    rw [hzsz, Array.toList_map, Array.toList_range]
    exact range_flat v.cells hzsz hpos n
  obtain ⟨cs', hf, hc⟩ := fill_ok (place := fun i => some (i * sz, sz)) _ _ (List.replicate n z) l ((Array.range (n * sz)).map (v.cells[· % v.cells.size]!)) (by rw [hflat]; exact zeros_RCs hzc n) h1 h2 h (fun i q hi => by
    have hq := hall q (List.mem_of_getElem? hi)
    have hlt := (List.getElem?_eq_some_iff.1 hi).1
    rw [AV.sizes_all (sz := sz) (fun x hx => hall x (List.mem_of_mem_take hx)), List.length_take, hq]
    congr 2; congr 1; omega)
  have hg := Grow.alloc C.W (.cells cs' e)
  have hlen : cs'.toList.length = n * sz := by
    rw [hc.len]
    have : ∀ (ps : List (Nat × AV)) (zs l : List AV), setAll zs ps = some l → AV.sizes l = AV.sizes zs := by
      intro ps
      induction ps with
      | nil => intro zs l h; simp [setAll] at h; rw [h]
      | cons p ps ih =>
        intro zs l h
        obtain ⟨i, y⟩ := p
        simp only [setAll] at h
        cases hz : zs[i]? with
        | none => rw [hz] at h; cases h
        | some w =>
          rw [hz] at h
          simp only at h
          split at h
          · rename_i hcc
            rw [ih _ _ h]
            have := sizes_set hz hcc.1 zs.length
            rwa [List.take_of_length_le (by simp), List.take_length] at this
          · cases h
    rw [this _ _ _ h, AV.sizes_all hall, List.length_replicate]
  have hsz2 : ∀ x ∈ l, x.size = sz := by
    have : ∀ (ps : List (Nat × AV)) (zs l : List AV), setAll zs ps = some l → (∀ x ∈ zs, x.size = sz) → ∀ x ∈ l, x.size = sz := by
      intro ps
      induction ps with
      | nil => intro zs l h; simp [setAll] at h; rw [h]; exact id
      | cons p ps ih =>
        intro zs l h hh
        obtain ⟨i, y⟩ := p
        simp only [setAll] at h
        cases hz : zs[i]? with
        | none => rw [hz] at h; cases h
        | some w =>
          rw [hz] at h
          simp only at h
          split at h
          · rename_i hcc
            refine ih _ _ h fun x hx => ?_
            rcases List.mem_or_eq_of_mem_set hx with hx | rfl
            · exact hh x hx
            · rw [← hcc.1]; exact hh w (List.mem_of_getElem? hz)
          · cases h
    exact this _ _ _ h hall
  refine ⟨_, .slice (some ⟨C.W.heap.size, 0, none⟩) n n, newC C (C.W.alloc (.cells cs' e)) d n, ?_, .inl rfl, newC_ext s.heap hg hd n, newArr_sat (cs := cs'.toList) (rest := []) (ty := e) s hd hc hsz2 (by simpa using hlen) (hzs ▸ (by omega)) hg ?_, newC_ow (Nat.le_refl _)⟩
  · have hnn : ¬ (n * sz > 16777216) := by omega
    have hzs2 : v.cells.size = ti.size := by rw [hsz]; exact hzsz
    simp only [Array.toList_map] at hf
    have hb : (Instr.buildSlice t n (parts.map fun (x : Nat × Operand) => (x.1, a.eval x.2))).run P C.W = .ok (.slice (some ⟨C.W.heap.size, 0, none⟩) n n) (C.W.alloc (.cells cs' e)) := by
      unfold Instr.buildSlice
      simp only [Sem.run_bind, run_underlying hu, Result.andThen_ok]
      rw [show (sizeOf e).run P C.W = .ok sz C.W by simp [sizeOf, typeInfo, hti, hsz]]
      simp only [Result.andThen_ok]
      rw [if_neg (by omega)]
      simp [newRow, newObj]
      split
      · rename_i h0
        have h00 : n * sz = 0 := h0
        have : Array.map (fun x => (default : Value)) (Array.range (n * sz)) = Array.map (fun x => v.cells[x % v.cells.size]!) (Array.range (n * sz)) := by
          rw [h00]; apply Array.ext <;> simp
        rw [this, hf]; simp [Sem.run]
      · rw [hzr]
        simp only [Result.andThen_ok]
        rw [hf]; simp [Sem.run]
    simp only [execOp, ho, Sem.run_bind, newC]
    rw [show (parts.map fun x => match x with | (i, x) => (i, a.eval x)) = parts.map fun (x : Nat × Operand) => (x.1, a.eval x.2) from rfl, hb]
    rfl
  · show (C.W.heap.push _)[C.W.heap.size]? = _
    simp

/-! ### Assertions, nil -/
theorem snd_assert (s : Sat nt C σ a) {x : Operand} {xt t : TypeId} {ok : Bool} (ho : o.op = .typeAssert x xt t ok) (ht : isIface P t = false) {r : AV}
    (h : (∃ y, evE σ.env x = .ifc t y ∧ r = (if ok then .tup [y, .raw (.bool true)] else y)) ∨ (∃ t' y z, evE σ.env x = .ifc t' y ∧ t' ≠ t ∧ ok = true ∧ zeroIs P t z ∧ r = .tup [z, .raw (.bool false)]) ∨ (∃ z, evE σ.env x = .raw .nilIface ∧ ok = true ∧ zeroIs P t z ∧ r = .tup [z, .raw (.bool false)])) :
    Res P nt C σ a o r σ.heap := by
  obtain ⟨d, hd, hn⟩ := isIface_not ht
  have hx := s.ev x
  have tw : ∀ (v : Value) (b : Bool) (y : AV), RV C y v → RV C (.tup [y, .raw (.bool b)]) (.tuple #[v, .bool b]) := fun v b y h => RV.tup (.cons h (.cons (.raw _) .nil))
  rcases h with ⟨y, hy, rfl⟩ | ⟨t', y, z, hy, hne, rfl, hz, rfl⟩ | ⟨z, hy, rfl, hz, rfl⟩
  · rw [hy] at hx
    generalize hv : a.eval x = v at hx
    cases hx with
    | ifc hx =>
      rename_i v
      cases ok with
      | true =>
        refine .mk s (v := .tuple #[v, .bool true]) ?_ (tw _ _ _ hx)
        cases d <;> first | exact absurd rfl (hn _) | simp [execOp, ho, Instr.typeAssert, run_underlying hd, hv]
      | false =>
        refine .mk s (v := v) ?_ hx
        cases d <;> first | exact absurd rfl (hn _) | simp [execOp, ho, Instr.typeAssert, run_underlying hd, hv]
  · rw [hy] at hx
    obtain ⟨zv, hzr, hzv, _⟩ := hz.run (C := C) C.W
    generalize hv : a.eval x = v at hx
    cases hx with
    | ifc hx =>
      refine .mk s (v := .tuple #[zv, .bool false]) ?_ (tw _ _ _ hzv)
      cases d <;> first | exact absurd rfl (hn _) | simp [execOp, ho, Instr.typeAssert, run_underlying hd, hv, hne, hzr]
  · obtain ⟨zv, hzr, hzv, _⟩ := hz.run (C := C) C.W
    refine .mk s (v := .tuple #[zv, .bool false]) ?_ (tw _ _ _ hzv)
    cases d <;> first | exact absurd rfl (hn _) | simp [execOp, ho, Instr.typeAssert, run_underlying hd, s.raw hy, hzr]

def isPtr (P : Program) (t : TypeId) : Bool := match P.underlying t with | some (.pointer _) => true | _ => false
def isIf (P : Program) (t : TypeId) : Bool := match P.underlying t with | some (.interface _) => true | _ => false
theorem isPtr_at {t : TypeId} (h : isPtr P t = true) : ∃ e, P.underlying t = some (.pointer e) := by
  unfold isPtr at h; split at h
  · exact ⟨_, by assumption⟩
  · cases h
theorem isIf_at {t : TypeId} (h : isIf P t = true) : ∃ e, P.underlying t = some (.interface e) := by
  unfold isIf at h; split at h
  · exact ⟨_, by assumption⟩
  · cases h
/-- Is a pointer nil? -/
def ptrNil : AV → Option Bool
  | .ptr _ _ | .ep _ _ _ _ | .fp _ => some false
  | .raw v => match v with
    | .pointer none => some true
    | _ => none
  | _ => none
/-- Is an interface value nil? -/
def ifNil : AV → Option Bool
  | .ifc _ _ => some false
  | .raw v => match v with
    | .nilIface => some true
    | _ => none
  | _ => none
theorem equal_ptr {t e : TypeId} (hu : P.underlying t = some (.pointer e)) (w : World) (p : Option Addr) : (Op.equal t (.pointer p) (.pointer none)).run P w = .ok p.isNone w := by
  have : ∀ d, (Op.equalIn (d + 1) t (.pointer p) (.pointer none)).run P w = .ok p.isNone w := by
    intro d
    cases p <;> simp [Op.equalIn, run_underlying hu]
  exact this 9999
theorem equal_if {t : TypeId} {e : Array (String × TypeId)} (hu : P.underlying t = some (.interface e)) (w : World) {v : Value} (hv : v = .nilIface ∨ ∃ t v', v = .iface t v') : (Op.equal t v .nilIface).run P w = .ok (match v with | .nilIface => true | _ => false) w := by
  have : ∀ d, (Op.equalIn (d + 1) t v .nilIface).run P w = .ok (match v with | .nilIface => true | _ => false) w := by
    intro d
    rcases hv with rfl | ⟨t', v', rfl⟩ <;> simp [Op.equalIn, run_underlying hu]
  exact this 9999
theorem ptrNil_at {x : AV} {v : Value} {b : Bool} (hx : RV C x v) (h : ptrNil x = some b) : ∃ p, v = .pointer p ∧ b = p.isNone := by
  cases x with
  | ptr _ _ => simp [ptrNil] at h; subst h; cases hx; exact ⟨_, rfl, rfl⟩
  | ep _ _ _ _ => simp [ptrNil] at h; subst h; cases hx; exact ⟨_, rfl, rfl⟩
  | fp _ => simp [ptrNil] at h; subst h; cases hx; exact ⟨_, rfl, rfl⟩
  | raw w =>
    have := hx.raw_eq; subst this
    simp only [ptrNil] at h
    split at h
    · cases h; exact ⟨none, rfl, rfl⟩
    · cases h
  | _ => simp [ptrNil] at h
theorem ifNil_at {x : AV} {v : Value} {b : Bool} (hx : RV C x v) (h : ifNil x = some b) : (v = .nilIface ∧ b = true) ∨ ∃ t v', v = .iface t v' ∧ b = false := by
  cases x with
  | ifc _ _ => simp [ifNil] at h; subst h; cases hx; exact .inr ⟨_, _, rfl, rfl⟩
  | raw w =>
    have := hx.raw_eq; subst this
    simp only [ifNil] at h
    split at h
    · cases h; exact .inl ⟨rfl, rfl⟩
    · cases h
  | _ => simp [ifNil] at h
theorem snd_ptrNil (s : Sat nt C σ a) {op : BinOp} {t ty : TypeId} {x y : Operand} (ho : o.op = .binOp op t x y ty) {b : Bool} (ht : isPtr P t = true) (hy : evE σ.env y = .raw (.pointer none)) (h : ptrNil (evE σ.env x) = some b) :
    (op = .eql → Res P nt C σ a o (.raw (.bool b)) σ.heap) ∧ (op = .neq → Res P nt C σ a o (.raw (.bool (!b))) σ.heap) := by
  obtain ⟨p, hv, rfl⟩ := ptrNil_at (s.ev x) h
  obtain ⟨e, he⟩ := isPtr_at ht
  have hq := equal_ptr he C.W p
  refine ⟨?_, ?_⟩ <;> rintro rfl
  · exact .mk s (v := .bool p.isNone) (by simp [execOp, ho, hv, s.raw hy, eqGuard, binOp, hq]) (.raw _)
  · exact .mk s (v := .bool (!p.isNone)) (by simp [execOp, ho, hv, s.raw hy, eqGuard, binOp, hq]) (.raw _)
theorem snd_ifNil (s : Sat nt C σ a) {op : BinOp} {t ty : TypeId} {x : Operand} (ho : o.op = .binOp op t x (.const .nilIface) ty) {b : Bool} (ht : isIf P t = true) (h : ifNil (evE σ.env x) = some b) :
    (op = .eql → Res P nt C σ a o (.raw (.bool b)) σ.heap) ∧ (op = .neq → Res P nt C σ a o (.raw (.bool (!b))) σ.heap) := by
  obtain ⟨e, he⟩ := isIf_at ht
  have hy : a.eval (.const .nilIface) = .nilIface := rfl
  rcases ifNil_at (s.ev x) h with ⟨hv, rfl⟩ | ⟨t', v', hv, rfl⟩
  · have hq := equal_if he C.W (v := .nilIface) (.inl rfl)
    refine ⟨?_, ?_⟩ <;> rintro rfl
    · exact .mk s (v := .bool true) (by simp [execOp, ho, hv, hy, eqGuard, binOp, hq]) (.raw _)
    · exact .mk s (v := .bool false) (by simp [execOp, ho, hv, hy, eqGuard, binOp, hq]) (.raw _)
  · have hq := equal_if he C.W (v := .iface t' v') (.inr ⟨_, _, rfl⟩)
    refine ⟨?_, ?_⟩ <;> rintro rfl
    · exact .mk s (v := .bool false) (by simp [execOp, ho, hv, hy, eqGuard, binOp, hq]) (.raw _)
    · exact .mk s (v := .bool true) (by simp [execOp, ho, hv, hy, eqGuard, binOp, hq]) (.raw _)

/-! ### Texts and bytes -/
/-- The bytes of a row, as a text. -/
def byteOf : AV → Option UInt8
  | .raw (.int .u8 n) => some (UInt8.ofNat n.toNat)
  | _ => none
def strOf : List AV → Option (List UInt8)
  | [] => some []
  | x :: l => match byteOf x, strOf l with
    | some b, some m => some (b :: m)
    | _, _ => none
theorem strOf_cells {C : Cx} : ∀ {l : List AV} {cs : List Value} {bs : List UInt8}, RCs C l cs → strOf l = some bs → ∃ ns : List Int, cs = ns.map (Value.int .u8) ∧ bs = ns.map fun n => UInt8.ofNat n.toNat
  | [], cs, bs, h, hs => by
    cases h
    simp [strOf] at hs; exact ⟨[], rfl, by simp [hs]⟩
  | x :: l, cs, bs, h, hs => by
    cases h with
    | cons h h2 =>
      simp only [strOf] at hs
      split at hs
      · rename_i b m hb hm
        cases hs
        obtain ⟨ns, rfl, rfl⟩ := strOf_cells h2 hm
        unfold byteOf at hb
        split at hb
        · rename_i n
          cases hb
          obtain ⟨v, rfl, hv, _⟩ := h.nag rfl
          have := hv.raw_eq; subst this
          exact ⟨n :: ns, rfl, rfl⟩
        · cases hb
      · cases hs
theorem run_bytes (w : World) : ∀ (ns : List Int) (acc : ByteArray), (forIn (m := Sem) (ns.map (Value.int .u8)) acc fun c s => match c with | .int .u8 n => pure (ForInStep.yield (s.push (UInt8.ofNat n.toNat))) | _ => stuck "bytesToString: byte expected").run P w = .ok ⟨acc.data ++ (ns.map fun n => UInt8.ofNat n.toNat).toArray⟩ w
  | [], acc => by simp
  | n :: ns, acc => by
    rw [List.map_cons, List.forIn_cons]
    simp only [pure_bind]
    rw [run_bytes w ns]
    congr 2
    simp [ByteArray.push]
theorem snd_bytesStr (s : Sat nt C σ a) {src dst : TypeId} {x : Operand} (ho : o.op = .convert src dst x) {e by_ : Nat} (ht : rowI P src = some (e, 1, by_)) (he : P.underlying e = some (.int .u8)) (hd : isStr P dst = true) {l : List AV} {bs : List UInt8} (hx : rowOf σ.heap 1 (evE σ.env x) = some l) (hb : strOf l = some bs) :
    Res P nt C σ a o (.raw (.string ⟨bs.toArray⟩)) σ.heap := by
  obtain ⟨A, c, hv, _, _, hl⟩ := rowOf_ok s (s.ev x) hx
  have hu := (rowI_at ht).1
  have hcv : (convert src dst (a.eval x)).run P C.W = (Conv.bytesToString (a.eval x)).run P C.W := by
    rw [hv]
    simp [convert, run_underlying hu, run_underlying (isStr_at hd), run_underlying he]
  have hbs : (Conv.bytesToString (a.eval x)).run P C.W = .ok (.string ⟨bs.toArray⟩) C.W := by
    rw [hv]
    rcases hl with rfl | ⟨b, off, cs, rfl, h1, h2⟩
    · simp [strOf] at hb
      subst hb
      cases A <;> simp [Conv.bytesToString, loadCells, loadCellsFrom] <;> rfl
    · obtain ⟨ns, rfl, rfl⟩ := strOf_cells h1 hb
      have hlen : (ns.map (Value.int .u8)).length = l.length := by
        rw [h1.len]
        have : ∀ (l : List AV) (bs : List UInt8), strOf l = some bs → AV.sizes l = l.length := by
          intro l
          induction l with
          | nil => intro _ _; rfl
          | cons y l ih =>
            intro bs h
            simp only [strOf] at h
            split at h
            · rename_i b' m hb' hm
              unfold byteOf at hb'
              split at hb'
              · simp [AV.sizes, AV.size, ih m hm]; omega
              · cases hb'
            · cases h
        exact this l _ hb
      have hld := run_loadCells (P := P) (W := C.W) (b := b) (o := off) (ns.map (Value.int .u8)) 0 #[] (by simpa using h2)
      rw [hlen] at hld
      simp only [Conv.bytesToString, loadCells, Sem.run_bind, hld, Result.andThen_ok]
      have := run_bytes (P := P) C.W ns ByteArray.empty
      simp at this ⊢
      exact this
  refine .mk s (v := .string ⟨bs.toArray⟩) ?_ (.raw _)
  simp [execOp, ho, hcv, hbs]
theorem snd_strBytes (s : Sat nt C σ a) {src dst : TypeId} {x : Operand} (ho : o.op = .convert src dst x) {e by_ : Nat} (ht : rowI P dst = some (e, 1, by_)) (he : P.underlying e = some (.int .u8)) (hs : isStr P src = true) {b : ByteArray} (hx : evE σ.env x = .raw (.string b)) {d : Nat} (hd : σ.heap d = none) :
    Res P nt C σ a o (.ow d 1 0 b.size) (setH σ.heap d (.arr 1 (strCellsAV b))) := by
  have hu := (rowI_at ht).1
  have hrun := Lib.run_convert_string_bytes (P := P) C.W src dst e b (isStr_at hs) hu he
  have hge := grownCap_ge C.W b.size 0 e
  have hg : Grow C.W (Lib.bytesWorld C.W e b) := ⟨rfl, rfl, rfl, Lib.bytesWorld_size C.W e b, fun k hk => Lib.bytesWorld_at_old C.W e b k hk⟩
  have hW := Lib.bytesWorld_at_new C.W e b
  have hsz : (Lib.bytesCells C.W e b).size = grownCap C.W b.size 0 e := by
    simp [Lib.bytesCells]
    have : b.data.size = b.size := rfl
    omega
  refine ⟨_, .slice (some ⟨C.W.heap.size, 0, none⟩) b.size (grownCap C.W b.size 0 e), newC C (Lib.bytesWorld C.W e b) d (grownCap C.W b.size 0 e), ?_, .inl rfl, newC_ext s.heap hg hd _, ?_, newC_ow hge⟩
  · simp [execOp, ho, s.raw hx, hrun, newC]
  · refine new_sat s hd hg ⟨C.W.heap.size, grownCap C.W b.size 0 e, _, e, _, b.data.toList.map (fun c => Value.int .u8 c.toNat), List.replicate (grownCap C.W b.size 0 e - b.size) (.int .u8 0), by simp [newC], .inr rfl, hW, ?_, by simp [Lib.bytesCells], (strCells_ok b), ?_, by rw [hsz]; omega, by omega⟩
    · exact ⟨fun o ho h => by omega, by simp⟩
    · intro x hx
      obtain ⟨c, _, rfl⟩ := List.mem_map.1 hx
      rfl
/-- A literal row of bytes, converted to its own type: the block gets a mark behind its last cell. -/
theorem snd_sameSl (s : Sat nt C σ a) {t : TypeId} {x : Operand} (ho : o.op = .convert t t x) {e by_ : Nat} (ht : rowI P t = some (e, 1, by_)) (he : P.underlying e = some (.int .u8)) {id len : Nat} {l : List AV} (hx : evE σ.env x = .ow id 1 0 len) (hob : σ.heap id = some (.arr 1 l)) (hlen : 0 < len) :
    Res P nt C σ a o (.ow id 1 0 len) σ.heap := by
  have hu := (rowI_at ht).1
  have hxv := s.ev x
  rw [hx] at hxv
  obtain ⟨b, T, cs, ty, fr, c1, c2, i1, i2, i3, i4, i5, i6, i7, i8, i9⟩ := s.heap.at_ id _ hob
  generalize hv : a.eval x = v at hxv
  generalize hL : len = L at hxv
  cases hxv with
  | ow0 hι hT => omega
  | ow hι hT =>
    obtain ⟨rfl, rfl⟩ := Prod.mk.inj (Option.some.inj (i1.symm.trans hι))
    subst hL
    have hlt := blk_lt' i3
    have hsh : C.W.shape? b = some (ty, cs.size) := by
      unfold World.shape?
      rw [i3]
    have hrun : (execOp a.eval o).run P C.W = .ok (.value (.slice (some ⟨b, 0 * 1, none⟩) len (T - 0))) (C.W.freeze ⟨b, cs.size, none⟩ 1) := by
      simp [execOp, ho, hv, convert, run_underlying hu, run_underlying he, markStringish, hsh]
    obtain ⟨lo, hi⟩ := fr
    have hW : (C.W.freeze ⟨b, cs.size, none⟩ 1).heap[b]? = some (.cells cs ty (if lo == hi then (cs.size, cs.size + 1) else (min lo cs.size, max hi (cs.size + 1)))) := by
      simp [World.freeze, Array.getElem?_modify, i3]
    have hp : Put C.W (C.W.freeze ⟨b, cs.size, none⟩ 1) b := by
      refine ⟨by simp [World.freeze], by simp [World.freeze], by simp [World.freeze], by simp [World.freeze], fun k hk => ?_⟩
      simp [World.freeze, Array.getElem?_modify, Ne.symm hk]
    have hnf : NoFz cs.size (if lo == hi then (cs.size, cs.size + 1) else (min lo cs.size, max hi (cs.size + 1))) := by
      obtain ⟨n1, n2⟩ := i4
      simp only at n1 n2
      by_cases hlh : lo = hi
      · rw [if_pos (by simpa using hlh)]
        exact ⟨fun o ho h => by simp only at h; omega, by simp only; omega⟩
      · rw [if_neg (by simpa using hlh)]
        have hlo : cs.size ≤ lo := by
          rcases Nat.lt_or_ge lo cs.size with g | g
          · exact absurd ⟨Nat.le_refl _, by omega⟩ (n1 lo g)
          · exact g
        exact ⟨fun o ho h => by simp only at h; omega, by simp only; omega⟩
    have u := put_up s.heap i2 hp
    have sat := upd_sat s hob rfl i1 i2 hp (ob' := .arr 1 l) rfl ⟨b, T, cs, ty, _, c1, c2, i1, i2, hW, hnf, i5, i6.up u, i7, i8, i9⟩
    have eH : setH σ.heap id (.arr 1 l) = σ.heap := by
      funext j
      simp only [setH]
      split
      · rename_i h; rw [h, hob]
      · rfl
    rw [eH] at sat
    exact ⟨_, _, { C with W := C.W.freeze ⟨b, cs.size, none⟩ 1 }, hrun, .inl rfl, put_ext i2 hp, sat, .ow i1 hT⟩
end Go.Proofs.YtngeckkebejhiaaDoor.Asl
