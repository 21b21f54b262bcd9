/- Part 6 of what the row leans on: abstract values and states, their rules, and the contracts of the functions. -/
import Derived.Laws.MakeOwn
import Derived.Laws.StructEq
import Derived.Test.YtejeemhenoobjaaZW14P5
namespace Go.Proofs.Ytejeemhenoobjaa.Asl
open Go Go.RowKit
set_option linter.unusedVariables false
set_option linter.unusedSimpArgs false
variable {P : Program} {nt : Nat} {C : Cx} {σ : St} {a : Act} {o : Oper}

theorem snd_makeSlice (s : Sat nt C σ a) {t : TypeId} {x y : Operand} (ho : o.op = .makeSlice t x y) {e : TypeId} {sz bytes : Nat} (ht : rowI P t = some (e, sz, bytes)) {k k' : IntKind} {n c : Int} (hx : evE σ.env x = .raw (.int k n)) (hy : evE σ.env y = .raw (.int k' c)) (h0 : 0 ≤ n) (h1 : n ≤ c)
    (hb : c * bytes ≤ 140737488355328) (hc : c ≤ 140737488355328) {z : AV} (hz : zeroIs P e z) (hzs : z.size = sz) {d : Nat} (hd : σ.heap d = none) : Res P nt C σ a o (.ow d sz 0 n.toNat) (setH σ.heap d (.arr sz (List.replicate n.toNat z))) := by
  obtain ⟨hu, ti, zv, hti, hzv, hsz, hby, hzsz, hpos⟩ := rowI_at ht
  obtain ⟨v, hzr, hzv2, hz1⟩ := hz.run (C := C) C.W
  have hzc := hzv2.cells hz1
  have hveq : v = zv := by
    have : (zeroValue e).run P C.W = .ok zv C.W := by simp [zeroValue, typeInfo, program, Sem.run, hti, hzv]
    rw [hzr] at this
    cases this; rfl
  subst hveq
  have hrun := run_make (P := P) C.W t e ti v hu hti hzv k k' n c h0 h1 (by rw [hby, Int.mul_comm]; omega) (by omega)
  rw [hsz] at hrun
  have hflat : (madeCells v.cells (c.toNat * sz)).toList = (List.replicate n.toNat v.cells.toList).flatten ++ (List.replicate (c.toNat - n.toNat) v.cells.toList).flatten := by
    unfold madeCells
    rw [Array.toList_map, Array.toList_range, hzsz, range_flat v.cells hzsz hpos, ← List.flatten_append, List.replicate_append_replicate]
    congr 2; omega
  have hall : ∀ x ∈ List.replicate n.toNat z, x.size = sz := fun x hx => by rw [List.eq_of_mem_replicate hx]; exact hzs
  have hg := Grow.alloc C.W (.cells (madeCells v.cells (c.toNat * sz)) e)
  refine ⟨_, .slice (some ⟨C.W.heap.size, 0, none⟩) n.toNat c.toNat, newC C (C.W.alloc (.cells (madeCells v.cells (c.toNat * sz)) e)) d c.toNat, ?_, .inl rfl, newC_ext s.heap hg hd _, newArr_sat (cs := (List.replicate n.toNat v.cells.toList).flatten) (rest := (List.replicate (c.toNat - n.toNat) v.cells.toList).flatten) (ty := e) s hd (zeros_RCs hzc _) hall ?_ hpos hg ?_, newC_ow (by omega)⟩
  · simp [execOp, ho, s.raw hx, s.raw hy, hrun, newC]
  · rw [← hflat, Array.length_toList, size_madeCells]
  · rw [← hflat]
    show (C.W.heap.push _)[C.W.heap.size]? = _
    simp

/-! ### Arrays in variables -/
def arrI (P : Program) (t : TypeId) : Option (Nat × Nat) := match P.underlying t with
  | some (.array n e) => match P.info? e with
    | some i => if i.size ≠ 0 then some (n, i.size) else none
    | none => none
  | _ => none
theorem arrI_at {t : TypeId} {n sz : Nat} (h : arrI P t = some (n, sz)) : ∃ e i, P.underlying t = some (.array n e) ∧ P.info? e = some i ∧ i.size = sz ∧ 0 < sz := by
  unfold arrI at h
  split at h
  · rename_i n' e hu
    split at h
    · rename_i i hi
      split at h
      · rename_i h0
        simp only [Option.some.injEq, Prod.mk.injEq] at h
        obtain ⟨rfl, rfl⟩ := h
        exact ⟨e, i, hu, hi, rfl, by omega⟩
      · cases h
    · cases h
  · cases h
theorem snd_indexArr (s : Sat nt C σ a) {t : TypeId} {x i : Operand} (ho : o.op = .indexAddr t x i) {m sz : Nat} (ht : arrI P t = some (m, sz)) {k : IntKind} {n : Int} (hi : evE σ.env i = .raw (.int k n)) (h0 : 0 ≤ n) (h1 : n < m) {id off : Nat} (hx : evE σ.env x = .ptr id off) :
    Res P nt C σ a o (.ptr id (off + n.toNat * sz)) σ.heap := by
  obtain ⟨e, ti, hu, hti, hsz, hpos⟩ := arrI_at ht
  have hv := s.ev x
  rw [hx] at hv
  generalize hw : a.eval x = w at hv
  cases hv with
  | ptr hι =>
    refine .mk s (v := .pointer (some ⟨_, off + n.toNat * sz, none⟩)) ?_ (.ptr hι)
    simp [execOp, ho, Instr.indexAt, Instr.sureAddr, s.raw hi, asIntOf, underlying, program, Sem.run, hu, hw, h0, h1, sizeOf, typeInfo, hti, hsz, add_at]
theorem snd_sliceArr (s : Sat nt C σ a) {t : TypeId} {x : Operand} {lo : Option Operand} (ho : o.op = .slice t x lo none none) {m sz : Nat} (ht : arrI P t = some (m, sz)) {id d : Nat} (hx : evE σ.env x = .ptr id 0) {l : List AV} (hob : σ.heap id = some (.box (.agg l))) (hl : l.length = m) (hs : ∀ x ∈ l, x.size = sz) (hd : σ.heap d = none) {k : Int} (hlo : Bnd (evE σ.env) lo 0 k) (hk0 : 0 ≤ k) (hk : k < m) :
    Res P nt C σ a o (.ow d sz k.toNat (m - k.toNat)) (setH (setH σ.heap id .dead) d (.arr sz l)) := by
  obtain ⟨e, ti, hu, hti, hsz, hpos⟩ := arrI_at ht
  obtain ⟨b, T, cs, ty, h1, h2, h3, h4⟩ := s.heap.at_ id _ hob
  have hv := s.ev x
  rw [hx] at hv
  generalize hw : a.eval x = w at hv
  cases hv with
  | ptr hι =>
    rw [h1] at hι; cases hι
    have hlen : cs.toList.length = m * sz := by rw [h4.ag.len, AV.sizes_all hs, hl]
    have hu0 : Up C (placeC C C.W d b m) := ⟨fun _ h => h, fun k hk => rfl, fun i p hp2 => by
      simp only [placeC]; rw [if_neg (fun e => by subst e; rw [s.heap.no i hd] at hp2; cases hp2)]; exact hp2⟩
    obtain ⟨u, ex, sat⟩ := place_sat (d := d) (T' := m) (ob' := .arr sz l) s hob rfl hd h1 h2 (Put.refl _ _) rfl ⟨b, m, cs, ty, (0, 0), cs.toList, [], by simp [placeC], h2, h3, ⟨fun o _ h => by simp at h, Nat.le_refl _⟩, by simp, h4.ag.up hu0, hs, by simpa using hlen, hpos⟩
    have hb := bounds_run (P := P) (isS := false) (hi := none) (len := m) (cap := m) (h := m) s hlo rfl hk0 (by omega) (by omega) (Nat.le_refl _) C.W
    refine ⟨_, .slice (some ⟨b, k.toNat * sz, none⟩) (m - k.toNat) (m - k.toNat), placeC C C.W d b m, ?_, .inl rfl, ex, sat, ?_⟩
    · have hne : ¬ m = k.toNat := by omega
      simp at hb
      simp [execOp, ho, Instr.sliceAt, Instr.sureAddr, underlying, program, Sem.run, hu, hw, hb, sizeOf, typeInfo, hti, hsz, placeC, hne, add_at]
    · exact RV.ow (C := placeC C C.W d b m) (id := d) (sz := sz) (off := k.toNat) (len := m - k.toNat) (b := b) (T := m) (by simp [placeC]) (by omega)

/-! ### Structs that are compared -/
inductive Eqd where
  | b | i | s
  | st (l : List Eqd)
mutual
def Eqd.size : Eqd → Nat
  | .st l => Eqd.sizes l
  | _ => 1
def Eqd.sizes : List Eqd → Nat
  | [] => 0
  | d :: l => d.size + Eqd.sizes l
end
def Eqd.isSt : Eqd → Bool
  | .st _ => true
  | _ => false
def eqds (P : Program) (g : TypeId → Option Eqd) : List Field → Nat → Option (List Eqd)
  | [], _ => some []
  | f :: fs, off => if f.name ≠ "_" ∧ f.offset = off then match g f.type with
    | some d => if tyI P f.type = some (d.size, d.isSt) then (eqds P g fs (off + d.size)).map (d :: ·) else none
    | none => none
    else none
def eqd (P : Program) : Nat → TypeId → Option Eqd
  | 0, _ => none
  | m + 1, t => match P.underlying t with
    | some .bool => some .b
    | some (.int _) => some .i
    | some .string => some .s
    | some (.struct fs) => if P.stoodInHeld t = false then (eqds P (eqd P m) fs.toList 0).map .st else none
    | _ => none
def eqB : AV → AV → Option Bool
  | .raw (.bool x), .raw (.bool y) => some (x == y)
  | _, _ => none
def eqI : AV → AV → Option Bool
  | .raw (.int k x), .raw (.int k' y) => if k = k' then some (decide (x = y)) else none
  | _, _ => none
def eqS : AV → AV → Option Bool
  | .raw (.string x), .raw (.string y) => some (decide (x = y))
  | _, _ => none
theorem eqB_inv {x y : AV} {b : Bool} (h : eqB x y = some b) : ∃ p q, x = .raw (.bool p) ∧ y = .raw (.bool q) ∧ b = (p == q) := by
  unfold eqB at h
  split at h
  · cases h; exact ⟨_, _, rfl, rfl, rfl⟩
  · cases h
theorem eqI_inv {x y : AV} {b : Bool} (h : eqI x y = some b) : ∃ k p q, x = .raw (.int k p) ∧ y = .raw (.int k q) ∧ b = decide (p = q) := by
  unfold eqI at h
  split at h
  · split at h
    · rename_i e; subst e; cases h; exact ⟨_, _, _, rfl, rfl, rfl⟩
    · cases h
  · cases h
theorem eqS_inv {x y : AV} {b : Bool} (h : eqS x y = some b) : ∃ p q, x = .raw (.string p) ∧ y = .raw (.string q) ∧ b = decide (p = q) := by
  unfold eqS at h
  split at h
  · cases h; exact ⟨_, _, rfl, rfl, rfl⟩
  · cases h
def AV.parts : AV → Option (List AV)
  | .agg l => some l
  | _ => none
theorem AV.parts_inv {x : AV} {l : List AV} (h : x.parts = some l) : x = .agg l := by
  cases x <;> simp [AV.parts] at h
  rw [h]
mutual
def eqV : Eqd → AV → AV → Option Bool
  | .b, x, y => eqB x y
  | .i, x, y => eqI x y
  | .s, x, y => eqS x y
  | .st ds, x, y => match x.parts, y.parts with
    | some l, some m => eqVs ds l m
    | _, _ => none
def eqVs : List Eqd → List AV → List AV → Option Bool
  | [], [], [] => some true
  | d :: ds, x :: l, y :: m => match eqV d x y, eqVs ds l m with
    | some p, some q => some (p && q)
    | _, _ => none
  | _, _, _ => none
end
theorem eqV_st {ds : List Eqd} {x y : AV} {b : Bool} (h : eqV (.st ds) x y = some b) : ∃ l m, x = .agg l ∧ y = .agg m ∧ eqVs ds l m = some b := by
  unfold eqV at h
  split at h
  · rename_i l m h1 h2
    exact ⟨l, m, AV.parts_inv h1, AV.parts_inv h2, h⟩
  · cases h
mutual
theorem eqV_size : ∀ (d : Eqd) (x y : AV) (b : Bool), eqV d x y = some b → x.size = d.size ∧ y.size = d.size ∧ x.isAgg = d.isSt ∧ y.isAgg = d.isSt
  | .b, x, y, b, h => by
    unfold eqV at h
    obtain ⟨p, q, rfl, rfl, _⟩ := eqB_inv h
    simp [AV.size, Eqd.size, AV.isAgg, Eqd.isSt]
  | .i, x, y, b, h => by
    unfold eqV at h
    obtain ⟨k, p, q, rfl, rfl, _⟩ := eqI_inv h
    simp [AV.size, Eqd.size, AV.isAgg, Eqd.isSt]
  | .s, x, y, b, h => by
    unfold eqV at h
    obtain ⟨p, q, rfl, rfl, _⟩ := eqS_inv h
    simp [AV.size, Eqd.size, AV.isAgg, Eqd.isSt]
  | .st ds, x, y, b, h => by
    obtain ⟨l, m, rfl, rfl, h⟩ := eqV_st h
    have := eqVs_size ds _ _ b h
    simp [AV.size, Eqd.size, AV.isAgg, Eqd.isSt, this]
theorem eqVs_size : ∀ (d : List Eqd) (x y : List AV) (b : Bool), eqVs d x y = some b → AV.sizes x = Eqd.sizes d ∧ AV.sizes y = Eqd.sizes d
  | [], [], [], b, h => by simp [AV.sizes, Eqd.sizes]
  | d :: ds, x :: l, y :: m, b, h => by
    simp only [eqVs] at h
    split at h
    · rename_i p q e1 e2
      have h1 := eqV_size d x y p e1
      have h2 := eqVs_size ds l m q e2
      simp [AV.sizes, Eqd.sizes, h1, h2]
    · cases h
  | [], _ :: _, _, b, h => by simp [eqVs] at h
  | [], [], _ :: _, b, h => by simp [eqVs] at h
  | _ :: _, [], _, b, h => by simp [eqVs] at h
  | _ :: _, _ :: _, [], b, h => by simp [eqVs] at h
end
theorem part_ok {t n : Nat} {ag : Bool} (ht : tyI P t = some (n, ag)) {z : AV} {c p r : List Value} (hz : RC C z c) (hn : z.size = n) (hag : z.isAgg = ag) : ∃ w, (part t (p ++ (c ++ r)).toArray p.length).run P C.W = .ok w C.W ∧ RV C z w := by
  have hl := hz.len
  unfold part
  simp only [Sem.run_bind, tyI_agg ht, Result.andThen_ok]
  cases ag with
  | true =>
    refine ⟨.agg c.toArray, ?_, hz.val.1 hag⟩
    simp only [if_true, Sem.run_bind, tyI_size ht, Result.andThen_ok, Sem.run_pure]
    congr 2
    apply Array.toList_inj.1
    simp [List.drop_append, List.take_append, ← hn, ← hl]
  | false =>
    obtain ⟨v, rfl, hv, _⟩ := hz.nag hag
    refine ⟨v, ?_, hv⟩
    simp
theorem eqd_run : ∀ (m : Nat) (t : TypeId) (d : Eqd), eqd P m t = some d → ∀ (x y : AV) (v u : Value) (b : Bool) (k : Nat), RV C x v → RV C y u → eqV d x y = some b → (Op.equalIn (m + k) t v u).run P C.W = .ok b C.W := by
  intro m
  induction m with
  | zero => intro t d h; simp [eqd] at h
  | succ m IH =>
    intro t d h x y v u b k hx hy hb
    have fields : ∀ (fs : List Field) (off : Nat) (ds : List Eqd), eqds P (eqd P m) fs off = some ds → ∀ (l l' : List AV) (p q p' q' : List Value) (b : Bool), p.length = off → p'.length = off → RCs C l q → RCs C l' q' → eqVs ds l l' = some b → (Op.eqFields (m + k) (p ++ q).toArray (p' ++ q').toArray fs).run P C.W = .ok b C.W := by
      intro fs
      induction fs with
      | nil =>
        intro off ds h l l' p q p' q' b hp hp' hl hl' hb
        simp [eqds] at h; subst h
        cases l <;> cases l' <;> simp [eqVs] at hb
        subst hb
        simp [Op.eqFields]
      | cons f fs ih =>
        intro off ds h l l' p q p' q' b hp hp' hl hl' hb
        simp only [eqds] at h
        split at h
        · rename_i hc
          split at h
          · rename_i d hd
            split at h
            · rename_i hty
              obtain ⟨ds', h2, rfl⟩ := Option.map_eq_some_iff.1 h
              cases l with
              | nil => simp [eqVs] at hb
              | cons z l =>
                cases l' with
                | nil => simp [eqVs] at hb
                | cons z' l' =>
                  simp only [eqVs] at hb
                  split at hb
                  · rename_i b1 b2 e1 e2
                    cases hb
                    cases hl with
                    | cons hz hl =>
                      rename_i c cs
                      cases hl' with
                      | cons hz' hl' =>
                        rename_i c' cs'
                        obtain ⟨s1, s2, s3, s4⟩ := eqV_size d z z' b1 e1
                        obtain ⟨w, p1, hw⟩ := part_ok (p := p) (r := cs) hty hz s1 s3
                        obtain ⟨w', p2, hw'⟩ := part_ok (p := p') (r := cs') hty hz' s2 s4
                        have p3 := IH f.type d hd z z' w w' b1 k hw hw' e1
                        have p4 := ih (off + d.size) ds' h2 l l' (p ++ c) cs (p' ++ c') cs' b2 (by rw [List.length_append, hp, hz.len, s1]) (by rw [List.length_append, hp', hz'.len, s2]) hl hl' e2
                        rw [hp, ← hc.2] at p1
                        rw [hp', ← hc.2] at p2
                        simp only [List.append_assoc] at p4
                        simp only [Op.eqFields, hc.1, ne_eq, not_false_eq_true, if_true, Sem.run_bind, p1, p2, p3, Result.andThen_ok]
                        cases b1
                        · simp
                        · simpa using p4
                  · cases hb
            · cases h
          · cases h
        · cases h
    have hd : m + 1 + k = (m + k) + 1 := by omega
    rw [hd]
    simp only [eqd] at h
    split at h
    · rename_i hu
      cases h
      unfold eqV at hb
      obtain ⟨p, q, rfl, rfl, rfl⟩ := eqB_inv hb
      cases hx; cases hy
      exact run_equalIn_bool C.W (m + k) t _ _ hu
    · rename_i hu
      cases h
      unfold eqV at hb
      obtain ⟨kk, p, q, rfl, rfl, rfl⟩ := eqI_inv hb
      cases hx; cases hy
      rw [run_equalIn_int C.W (m + k) t _ _ _ _ hu, beq_int]
    · rename_i hu
      cases h
      unfold eqV at hb
      obtain ⟨p, q, rfl, rfl, rfl⟩ := eqS_inv hb
      cases hx; cases hy
      rw [run_equalIn_string C.W (m + k) t _ _ hu, beq_str]
    · rename_i fs hu
      split at h
      · rename_i hst
        obtain ⟨ds, h2, rfl⟩ := Option.map_eq_some_iff.1 h
        obtain ⟨l, l', rfl, rfl, hb⟩ := eqV_st hb
        obtain ⟨cs, rfl, hc⟩ := hx.agg_inv
        obtain ⟨cs', rfl, hc'⟩ := hy.agg_inv
        have hfs : P.fieldsOf t = fs := by simp [Program.fieldsOf, hu]
        rw [run_equalIn_struct C.W (m + k) t _ _ (by rw [hfs]; exact hu) hst, hfs]
        have := fields fs.toList 0 ds h2 _ _ [] cs [] cs' b rfl rfl hc hc' hb
        simpa using this
      · cases h
    · cases h
def guardless (P : Program) (t : TypeId) : Bool := !(P.eqGuardType P.depth t)
theorem snd_eqS (s : Sat nt C σ a) {op : BinOp} {t ty : TypeId} {x y : Operand} (ho : o.op = .binOp op t x y ty) {ds : List Eqd} {b : Bool} (ht : eqd P 9 t = some (.st ds)) (hg : guardless P t = true) (h : eqV (.st ds) (evE σ.env x) (evE σ.env y) = some b) :
    (op = .eql → Res P nt C σ a o (.raw (.bool b)) σ.heap) ∧ (op = .neq → Res P nt C σ a o (.raw (.bool !b)) σ.heap) := by
  have hrun := eqd_run (C := C) 9 t _ ht _ _ _ _ b 9991 (s.ev x) (s.ev y) h
  have hx := s.ev x
  have hy := s.ev y
  obtain ⟨l, l', hX, hY, _⟩ := eqV_st h
  rw [hX] at hx
  rw [hY] at hy
  obtain ⟨cs, e1, _⟩ := hx.agg_inv
  obtain ⟨cs', e2, _⟩ := hy.agg_inv
  have hequal : (Op.equal t (.agg cs.toArray) (.agg cs'.toArray)).run P C.W = .ok b C.W := by rw [← e1, ← e2]; exact hrun
  have hgd : ∀ op, (eqGuard op t x y (.agg cs.toArray) (.agg cs'.toArray)).run P C.W = .ok () C.W := by
    intro op
    simp [guardless] at hg
    cases op <;> first | rfl | (simp [eqGuard, program, Sem.run, hg])
  refine ⟨?_, ?_⟩ <;> rintro rfl
  · exact .mk s (v := .bool b) (by simp [execOp, ho, e1, e2, hgd, binOp, hequal]) (.raw _)
  · exact .mk s (v := .bool !b) (by simp [execOp, ho, e1, e2, hgd, binOp, hequal]) (.raw _)
end Go.Proofs.Ytejeemhenoobjaa.Asl

namespace Go.Proofs.Ytejeemhenoobjaa.Asl
open Go Go.RowKit
set_option linter.unusedVariables false
set_option linter.unusedSimpArgs false
variable {P : Program} {nt : Nat} {C : Cx} {σ : St} {a : Act} {o : Oper}
theorem firstN (s : Sat nt C σ a) {sz n : Nat} {x : AV} {v : Value} {l : List AV} (hx : RV C x v) (h : rowOf σ.heap sz x = some l) (hn : n ≤ l.length) :
    ∃ cs, RCs C (l.take n) cs ∧ (∀ y ∈ l.take n, y.size = sz) ∧ cs.length = n * sz ∧ ∀ W', W'.heap = C.W.heap → (Builtin.firstCells sz n v).run P W' = .ok cs.toArray W' := by
  by_cases e : n = l.length
  · obtain ⟨A, c, cs, rfl, hc, hs, h1, h2, h3⟩ := rowOf_cells (P := P) s hx h
    subst e
    rw [List.take_length]
    exact ⟨cs, h1, hs, h2, h3⟩
  have hlt : n < l.length := by omega
  cases x with
  | sl s' m =>
    simp only [rowOf] at h
    split at h
    · rename_i e'; subst e'; cases h
      cases hx with
      | sl0 => simp at hlt
      | @sl _ _ _ cs b o' c hr hs hF hrd hc =>
        have hr' := hr
        rw [← List.take_append_drop n l] at hr'
        obtain ⟨c1, c2, rfl, h1, h2⟩ := hr'.split
        have hrd' : Reads C.W b o' c1 := by
          have := Reads.sub (c1 := []) (c := c1) (c2 := c2) (by simpa using hrd)
          simpa using this
        have hx' : RV C (.sl s' (l.take n)) (.slice (some ⟨b, o', none⟩) (l.take n).length c) := .sl h1 (fun y hy => hs y (List.mem_of_mem_take hy)) hF hrd' (by rw [List.length_take]; omega)
        obtain ⟨A, c', cs, e1, hc', hs', k1, k2, k3⟩ := rowOf_cells (P := P) (sz := s') (l := l.take n) s hx' (by simp [rowOf])
        rw [List.length_take, Nat.min_eq_left (by omega)] at k2 k3
        refine ⟨cs, k1, hs', k2, fun W' hW => ?_⟩
        have k4 := k3 W' hW
        simp only [Value.slice.injEq] at e1
        obtain ⟨rfl, _, _⟩ := e1
        exact k4
    · cases h
  | ow id s' off len =>
    have h0 := h
    simp only [rowOf] at h
    split at h
    · rename_i e'; subst e'
      have key : ∀ q m, σ.heap id = some q → (q = .arr s' m ∨ q = .fz s' m) → off + len ≤ m.length → l = (m.drop off).take len → ∃ cs, RCs C (l.take n) cs ∧ (∀ y ∈ l.take n, y.size = s') ∧ cs.length = n * s' ∧ ∀ W', W'.heap = C.W.heap → (Builtin.firstCells s' n v).run P W' = .ok cs.toArray W' := by
        intro q m hq hqq hlen hl
        have hll : len = l.length := by rw [hl]; simp; omega
        have hrow : rowOf σ.heap s' (.ow id s' off n) = some (l.take n) := by
          rcases hqq with rfl | rfl
          · simp only [rowOf, if_true, hq]; rw [if_pos ⟨trivial, by omega⟩, hl, List.take_take, Nat.min_eq_left (by omega)]
          · simp only [rowOf, if_true, hq]; rw [if_pos ⟨trivial, by omega⟩, hl, List.take_take, Nat.min_eq_left (by omega)]
        cases hx with
        | @ow _ _ _ _ _ b T hι hT =>
          obtain ⟨A, c', cs, e1, hc', hs', k1, k2, k3⟩ := rowOf_cells (P := P) s (RV.ow (C := C) (id := id) (sz := s') (off := off) (len := n) hι (by omega)) hrow
          rw [List.length_take, Nat.min_eq_left (by omega)] at k2 k3
          refine ⟨cs, k1, hs', k2, fun W' hW => ?_⟩
          have k4 := k3 W' hW
          simp only [Value.slice.injEq] at e1
          obtain ⟨rfl, _, _⟩ := e1
          exact k4
        | ow0 hι hT => omega
      cases hq : σ.heap id with
      | none => rw [hq] at h; cases h
      | some q =>
        rw [hq] at h
        cases q with
        | arr q' m =>
          simp only at h
          split at h
          · rename_i hc; obtain ⟨rfl, hlen⟩ := hc; cases h; exact key _ m hq (.inl rfl) hlen rfl
          · cases h
        | fz q' m =>
          simp only at h
          split at h
          · rename_i hc; obtain ⟨rfl, hlen⟩ := hc; cases h; exact key _ m hq (.inr rfl) hlen rfl
          · cases h
        | _ => cases h
    · cases h
  | raw w => simp only [rowOf] at h; split at h <;> cases h; simp at hlt
  | _ => simp [rowOf] at h
theorem snd_copy (s : Sat nt C σ a) {c : Call} {x y : Operand} {t u : TypeId} (ho : o.op = .call c) (hc : c = { callee := .builtin .copy, args := #[x, y], argTypes := #[t, u] }) {e : TypeId} {sz bytes : Nat} (ht : rowI P t = some (e, sz, bytes)) {ys : List AV} (hy : rowOf σ.heap sz (evE σ.env y) = some ys)
    {id off len : Nat} {l : List AV} (hx : evE σ.env x = .ow id sz off len) (hob : σ.heap id = some (.arr sz l)) (hlen : off + len ≤ l.length) {m : Nat} (hm : m = min ys.length len) :
    Res P nt C σ a o (.raw (.int .i64 m)) (setH σ.heap id (.arr sz (l.take off ++ ys.take m ++ l.drop (off + m)))) := by
  obtain ⟨hu, ti, z, hti, hz, hsz, hby, hzs, hpos⟩ := rowI_at ht
  obtain ⟨cs, h1, h2, h3, h5⟩ := firstN (P := P) s (s.ev y) hy (n := m) (by omega)
  obtain ⟨A', cp', _, hyv, _⟩ := rowOf_cells (P := P) s (s.ev y) hy
  have hxv := s.ev x
  rw [hx] at hxv
  subst hsz
  have hlenY : ∀ w, (Builtin.lenOf (a.eval y)).run P w = .ok ys.length w := fun w => by rw [hyv]; simp [Builtin.lenOf]
  have hmin : Nat.min ys.length len = m := hm.symm
  by_cases hm0 : m = 0
  · have e1 : l.take off ++ ys.take m ++ l.drop (off + m) = l := by rw [hm0]; simp
    have e2 : setH σ.heap id (.arr ti.size l) = σ.heap := by
      funext j
      simp only [setH]
      split
      · rename_i e; rw [e, hob]
      · rfl
    have hcs0 : cs = [] := List.eq_nil_of_length_eq_zero (by rw [h3, hm0]; simp)
    subst hcs0
    rw [e1, e2]
    generalize hxe : a.eval x = vx at hxv
    subst hc
    rw [hm0] at hmin h5 ⊢
    have h6 := h5 C.W rfl
    cases hxv with
    | ow hι hT =>
      refine .mk s (v := .int .i64 0) ?_ (.raw _)
      simp [execOp, ho, resolve, invoke, builtin, hxe, Builtin.copy_, run_underlying hu, sizeOf, typeInfo, hti, hlenY, hmin, h6, storeCells, goInt]
    | ow0 hι hT =>
      refine .mk s (v := .int .i64 0) ?_ (.raw _)
      simp [execOp, ho, resolve, invoke, builtin, hxe, Builtin.copy_, run_underlying hu, sizeOf, typeInfo, hti, hlenY, hmin, h6, storeCells, goInt]
  obtain ⟨b, T, ccs, ty, fr, c1, c2, i1, i2, i3, i4, i5, i6, i7, i8, i9⟩ := s.heap.at_ id _ hob
  have hml : m ≤ len := by omega
  have el : l = l.take off ++ ((l.drop off).take m ++ l.drop (off + m)) := by
    rw [← List.drop_drop, List.take_append_drop, List.take_append_drop]
  have i6' := i6
  rw [el] at i6'
  obtain ⟨k1, k', rfl, n1, n2⟩ := i6'.split
  obtain ⟨k, k2, rfl, n3, n4⟩ := n2.split
  have lk1 : k1.length = off * ti.size := by
    rw [n1.len, AV.sizes_all (sz := ti.size) (fun q hq => i7 q (List.mem_of_mem_take hq)), List.length_take]; congr 1; omega
  have lk : k.length = cs.length := by
    rw [n3.len, AV.sizes_all (sz := ti.size) (fun q hq => i7 q (List.mem_of_mem_drop (List.mem_of_mem_take hq))), List.length_take, List.length_drop, h3]; congr 1; omega
  have hcs : ccs = (k1 ++ k ++ (k2 ++ c2)).toArray := by
    apply Array.toList_inj.1
    rw [i5]; simp
  subst hcs
  obtain ⟨W', hst, hp, hW⟩ := run_storeCells (P := P) (o := k1.length) cs 0 C.W k1 k (k2 ++ c2) i3 (by simpa using i4) rfl lk h1.cell
  have u0 := put_up s.heap i2 hp
  have hsat := upd_sat (ob' := .arr ti.size (l.take off ++ ys.take m ++ l.drop (off + m))) s hob rfl i1 i2 hp rfl ⟨b, T, _, ty, fr, k1 ++ cs ++ k2, c2, i1, i2, hW, by
      have : (k1 ++ cs ++ (k2 ++ c2)).toArray.size = (k1 ++ k ++ (k2 ++ c2)).toArray.size := by simp only [List.size_toArray, List.length_append]; omega
      rw [this]; exact i4, by simp, ((n1.append h1).append n4).up u0, fun q hq => by
      rcases List.mem_append.1 hq with hq | hq
      · rcases List.mem_append.1 hq with hq | hq
        · exact i7 q (List.mem_of_mem_take hq)
        · exact h2 q hq
      · exact i7 q (List.mem_of_mem_drop hq), by
      rw [← i8]; simp only [List.size_toArray, List.length_append]; omega, i9⟩
  refine ⟨.value (.int .i64 m), .int .i64 m, { C with W := W' }, ?_, .inl rfl, put_ext i2 hp, hsat, .raw _⟩
  generalize hxe : a.eval x = vx at hxv
  cases hxv with
  | ow hι hT =>
    obtain ⟨rfl, rfl⟩ := Prod.mk.inj (Option.some.inj (i1.symm.trans hι))
    rw [lk1] at hst
    subst hc
    simp [execOp, ho, resolve, invoke, builtin, hxe, Builtin.copy_, run_underlying hu, sizeOf, typeInfo, hti, hlenY, hmin, h5 C.W rfl, hst, goInt]
  | ow0 hι hT => exact absurd (by omega) hm0
end Go.Proofs.Ytejeemhenoobjaa.Asl

namespace Go.Proofs.Ytejeemhenoobjaa.Asl
open Go Go.RowKit
set_option linter.unusedVariables false
set_option linter.unusedSimpArgs false

/-- Types at which a call is told without memory. -/
def refT (P : Program) : Nat → TypeId → Bool
  | 0, _ => false
  | k + 1, t => match P.underlying t with
    | some (.slice _) | some (.pointer _) | some (.func _ _ _) | some (.interface _) => true
    | some (.struct fs) => fs.any fun f => refT P k f.type
    | _ => false
def plainT (P : Program) (t : TypeId) : Bool := !refT P 4 t

def minV : List AV → Option AV
  | [.raw (.int k x), .raw (.int _ y)] => some (.raw (.int k (if y < x then y else x)))
  | _ => none
def maxV : List AV → Option AV
  | [.raw (.int k x), .raw (.int _ y)] => some (.raw (.int k (if y > x then y else x)))
  | _ => none

def DBin (P : Program) (op : BinOp) (t : TypeId) (y : Operand) (X Y : AV) (r : AV) : Prop :=
  (∃ v u w, X = .raw v ∧ Y = .raw u ∧ binV op v u = some w ∧ r = .raw w) ∨
  (∃ v u, X = .raw (.bool v) ∧ Y = .raw (.bool u) ∧ isBool P t = true ∧ ((op = .eql ∧ r = .raw (.bool (v == u))) ∨ (op = .neq ∧ r = .raw (.bool (!(v == u)))))) ∨
  (∃ b, isPtr P t = true ∧ Y = .raw (.pointer none) ∧ ptrNil X = some b ∧ ((op = .eql ∧ r = .raw (.bool b)) ∨ (op = .neq ∧ r = .raw (.bool (!b))))) ∨
  (∃ b, isIf P t = true ∧ y = .const .nilIface ∧ ifNil X = some b ∧ ((op = .eql ∧ r = .raw (.bool b)) ∨ (op = .neq ∧ r = .raw (.bool (!b))))) ∨
  (∃ ds b, eqd P 9 t = some (.st ds) ∧ guardless P t = true ∧ eqV (.st ds) X Y = some b ∧ ((op = .eql ∧ r = .raw (.bool b)) ∨ (op = .neq ∧ r = .raw (.bool (!b)))))
def isArr (P : Program) (t : TypeId) : Bool := (arrI P t).isSome
def DArr (P : Program) (e : Operand → AV) (t : TypeId) (x : Operand) (lo hi : Option Operand) (d : Option Tmp) (h : Hp) (r : AV) (h' : Hp) : Prop :=
  hi = none ∧ ∃ m sz id q l k, arrI P t = some (m, sz) ∧ e x = .ptr id 0 ∧ h id = some (.box (.agg l)) ∧ l.length = m ∧ (∀ x ∈ l, x.size = sz) ∧ d = some q ∧ h q = none ∧ Bnd e lo 0 k ∧ 0 ≤ k ∧ k < (m : Nat) ∧ r = .ow q sz k.toNat (m - k.toNat) ∧ h' = setH (setH h id .dead) q (.arr sz l)
def DConv (P : Program) (d : Option Tmp) (s t : TypeId) (X : AV) (h : Hp) (r : AV) (h' : Hp) : Prop :=
  if isSl P s = true then (∃ e b l bs, rowI P s = some (e, 1, b) ∧ P.underlying e = some (.int .u8) ∧ isStr P t = true ∧ rowOf h 1 X = some l ∧ strOf l = some bs ∧ r = .raw (.string ⟨bs.toArray⟩) ∧ h' = h) ∨ (∃ e b id len l, s = t ∧ rowI P s = some (e, 1, b) ∧ P.underlying e = some (.int .u8) ∧ X = .ow id 1 0 len ∧ h id = some (.arr 1 l) ∧ 0 < len ∧ r = .ow id 1 0 len ∧ h' = h)
  else if isSl P t = true then ∃ e b x q, rowI P t = some (e, 1, b) ∧ P.underlying e = some (.int .u8) ∧ isStr P s = true ∧ X = .raw (.string x) ∧ d = some q ∧ h q = none ∧ r = .ow q 1 0 x.size ∧ h' = setH h q (.arr 1 (strCellsAV x))
  else ∃ v w, (P.underlying s).isSome = true ∧ X = .raw v ∧ convV P t v = some w ∧ r = .raw w ∧ h' = h
def cutAny (sz l h : Nat) (x r : AV) : Prop := cutOf sz l h x = some r ∨ (x = .raw (.slice none 0 0) ∧ h = 0 ∧ r = .raw (.slice none 0 0))
def DSlice (P : Program) (e : Operand → AV) (t : TypeId) (x : Operand) (lo hi : Option Operand) (r : AV) : Prop :=
  if isStr P t = true then ∃ b l k, e x = .raw (.string b) ∧ Bnd e lo 0 l ∧ Bnd e hi b.size k ∧ 0 ≤ l ∧ l ≤ k ∧ k ≤ b.size ∧ r = .raw (.string (b.extract l.toNat k.toNat))
  else ∃ el sz by_ l k, rowI P t = some (el, sz, by_) ∧ Bnd e lo 0 l ∧ Bnd e hi (lenOfAV (e x)) k ∧ 0 ≤ l ∧ l ≤ k ∧ cutAny sz l.toNat k.toNat (e x) r
/-- A call's function and arguments. -/
def argsOf (e : Operand → AV) (x : Operand) (args : Array Operand) : Option (FuncId × List AV) := (calleeOf (e x)).map fun p => (p.1, p.2.1 ++ args.toList.map e ++ p.2.2)
def DCall0 (P : Program) (e : Operand → AV) (x : Operand) (args : Array Operand) (h : Hp) (r : AV) (h' : Hp) : Prop :=
  ∃ f xs, argsOf e x args = some (f, xs) ∧ isFn P f = true ∧ AV.noids xs = true ∧ CallD P f xs noHeap r noHeap ∧ h' = h
def DCallN (P : Program) (e : Operand → AV) (x : Operand) (args : Array Operand) (d : Option Tmp) (h : Hp) (r : AV) (h' : Hp) : Prop :=
  ∃ f xs q, argsOf e x args = some (f, xs) ∧ isFn P f = true ∧ AV.noids xs = true ∧ d = some q ∧ h q = none ∧ ((CallD P f xs noHeap r noHeap ∧ h' = setH h q .dead) ∨ (∃ ob, CallD P f xs noHeap r (setH noHeap q ob) ∧ h' = setH h q ob))
/-- What a value may lead to: no object; one variable. -/
def AV.tagP : AV → Option (Option Nat)
  | .ptr p _ => if p < 90000 ∨ p = 100000 then some (some p) else none
  | .raw _ | .sl _ _ | .fp _ => some none
  | .agg l => if AV.noids l = true then some none else none
  | .ifc _ x => if x.noid = true then some none else none
  | _ => none
/-- A call acts at what it is handed, and at what it makes. -/
def touch (d : Option Tmp) (xs : List AV) (hs hs' : Hp) : Prop := (∀ x ∈ xs, x.tagP ≠ none) → (∀ id, (hs id).isSome = true → ∃ x ∈ xs, x.tagP = some (some id)) ∧ ∀ id, (hs' id).isSome = true → (hs id).isSome = true ∨ d = some id
def DCall1 (P : Program) (e : Operand → AV) (x : Operand) (args : Array Operand) (d : Option Tmp) (h : Hp) (r : AV) (h' : Hp) : Prop :=
  ∃ f xs, argsOf e x args = some (f, xs) ∧ isFn P f = true ∧
    ((AV.noids (AV.deeps (frzA h (AV.rowsOfs xs)) xs) = true ∧ CallD P f (AV.deeps (frzA h (AV.rowsOfs xs)) xs) noHeap r noHeap ∧ r.flat = true ∧ h' = h) ∨
     (∃ hs hs', touch d xs hs hs' ∧ (∀ id ob, hs id = some ob → frzA h (AV.rowsOfs xs) id = some ob ∧ ob.within hs = true) ∧ AV.withins hs (AV.deeps (frzA h (AV.rowsOfs xs)) xs) = true ∧ CallD P f (AV.deeps (frzA h (AV.rowsOfs xs)) xs) hs r hs' ∧ (∀ id, (hs' id).isSome = true → (hs id).isSome = true ∨ frzA h (AV.rowsOfs xs) id = none) ∧ h' = backH (frzA h (AV.rowsOfs xs)) hs hs'))
def DBuiltin (P : Program) (e : Operand → AV) (b : Builtin) (args : Array Operand) (ts : Array TypeId) (d : Option Tmp) (h : Hp) (r : AV) (h' : Hp) : Prop :=
  match b, args.toList, ts.toList with
  | .len, [x], [t] => if isStr P t = true then ∃ b, e x = .raw (.string b) ∧ r = .raw (.int .i64 b.size) ∧ h' = h
      else ∃ el sz by_ l, rowI P t = some (el, sz, by_) ∧ rowOf h sz (e x) = some l ∧ r = .raw (.int .i64 l.length) ∧ h' = h
  | .append, [x, y], [t, u] => ∃ el sz by_ ys q, rowI P t = some (el, sz, by_) ∧ srcOf P h sz u (e y) = some ys ∧ d = some q ∧ h q = none ∧
      ((∃ id len l, e x = .ow id sz 0 len ∧ h id = some (.arr sz l) ∧ len ≤ l.length ∧ (len + ys.length) * by_ ≤ 140737488355328 ∧ len + ys.length ≤ 140737488355328 ∧ r = .ow q sz 0 (len + ys.length) ∧ h' = setH (setH h id .dead) q (.arr sz (l.take len ++ ys))) ∨
       (∃ v, e x = .raw v ∧ nilSl v = true ∧ ys ≠ [] ∧ ys.length * by_ ≤ 140737488355328 ∧ ys.length ≤ 140737488355328 ∧ r = .ow q sz 0 ys.length ∧ h' = setH h q (.arr sz ys)))
  | .copy, [x, y], [t, _] => ∃ el sz by_ ys id off len l, rowI P t = some (el, sz, by_) ∧ rowOf h sz (e y) = some ys ∧ e x = .ow id sz off len ∧ h id = some (.arr sz l) ∧ off + len ≤ l.length ∧ r = .raw (.int .i64 (min ys.length len : Nat)) ∧ h' = setH h id (.arr sz (l.take off ++ ys.take (min ys.length len) ++ l.drop (off + min ys.length len)))
  | .min, xs, _ => minV (xs.map e) = some r ∧ h' = h
  | .max, xs, _ => maxV (xs.map e) = some r ∧ h' = h
  | _, _, _ => False
def plainCall (P : Program) (c : Call) : Bool := (match c.callee with | .value (.func _) => true | _ => false) && c.argTypes.toList.all (plainT P)
def D (P : Program) (e : Operand → AV) (o : Oper) (h : Hp) (r : AV) (h' : Hp) : Prop :=
  match o.op with
  | .move x => r = e x ∧ h' = h
  | .assign x => r = e x ∧ h' = h
  | .pick c x y => (∃ b, e c = .raw (.bool b) ∧ r = (if b then e x else e y)) ∧ h' = h
  | .nilCheck x => (ptrLike (e x) = true ∧ r = e x) ∧ h' = h
  | .extract x i => (∃ l, e x = .tup l ∧ l[i]? = some r) ∧ h' = h
  | .makeInterface t x => (isIface P t = false ∧ r = .ifc t (e x)) ∧ h' = h
  | .makeFunc f first cap => r = .fn f (first.toList.map e) (cap.toList.map e) ∧ h' = h
  | .fieldAddr t x f => (∃ off n ag, fldI P t f = some (off, n, ag) ∧ faddr off n ag (e x) = some r) ∧ h' = h
  | .field t x f => (∃ off n ag l, fldI P t f = some (off, n, ag) ∧ e x = .agg l ∧ AV.getL n ag l off = some r) ∧ h' = h
  | .load t x => (∃ n ag, tyI P t = some (n, ag) ∧ ldAt h n ag (e x) = some r) ∧ h' = h
  | .store t x y => ∃ n ag, tyI P t = some (n, ag) ∧ (e y).size = n ∧ ((e y).isAgg = true ∨ (e y).one = true) ∧ stAt h n (e y) (e x) = some h' ∧ r = .raw undef
  | .box t x => ∃ q, o.dst = some q ∧ h q = none ∧ ((e x).isAgg = true ∨ (e x).one = true) ∧ r = .ptr q 0 ∧ h' = setH h q (.box (e x))
  | .alloc t => ∃ q, o.dst = some q ∧ h q = none ∧ zeroIs P t (zAV P 9 t) ∧ r = .ptr q 0 ∧ h' = setH h q (.box (zAV P 9 t))
  | .binOp op t x y _ => DBin P op t y (e x) (e y) r ∧ h' = h
  | .unOp op _ x => (∃ v w, e x = .raw v ∧ unV op v = some w ∧ r = .raw w) ∧ h' = h
  | .convert s t x => DConv P o.dst s t (e x) h r h'
  | .index t x i => (∃ b k n, isStr P t = true ∧ e x = .raw (.string b) ∧ e i = .raw (.int k n) ∧ 0 ≤ n ∧ n < b.size ∧ r = .raw (.int .u8 (byteAt b n))) ∧ h' = h
  | .slice t x lo hi none => if isArr P t = true then DArr P e t x lo hi o.dst h r h' else DSlice P e t x lo hi r ∧ h' = h
  | .makeSlice t x y => ∃ el sz by_ n c k k' q, rowI P t = some (el, sz, by_) ∧ e x = .raw (.int k n) ∧ e y = .raw (.int k' c) ∧ 0 ≤ n ∧ n ≤ c ∧ c * by_ ≤ 140737488355328 ∧ c ≤ 140737488355328 ∧ zeroIs P el (zAV P 9 el) ∧ (zAV P 9 el).size = sz ∧ o.dst = some q ∧ h q = none ∧ r = .ow q sz 0 n.toNat ∧ h' = setH h q (.arr sz (List.replicate n.toNat (zAV P 9 el)))
  | .indexAddr t x i => ((∃ el sz by_ k n, rowI P t = some (el, sz, by_) ∧ e i = .raw (.int k n) ∧ 0 ≤ n ∧ elemAt noHeap sz n.toNat (e x) = some r) ∨ (∃ m sz k n id off, arrI P t = some (m, sz) ∧ e i = .raw (.int k n) ∧ 0 ≤ n ∧ n < (m : Nat) ∧ e x = .ptr id off ∧ r = .ptr id (off + n.toNat * sz))) ∧ h' = h
  | .build t ps => (∃ zs l, zAV P 9 t = .agg zs ∧ zeroIs P t (.agg zs) ∧ layIs P t zs ∧ setAll zs (pmap e ps) = some l ∧ r = .agg l) ∧ h' = h
  | .buildSlice t n ps => ∃ el sz by_ l q, rowI P t = some (el, sz, by_) ∧ zeroIs P el (zAV P 9 el) ∧ (zAV P 9 el).size = sz ∧ n * sz ≤ 16777216 ∧ setAll (List.replicate n (zAV P 9 el)) (pmap e ps) = some l ∧ o.dst = some q ∧ h q = none ∧ r = .ow q sz 0 n ∧ h' = setH h q (.arr sz l)
  | .typeAssert x _ t ok => (isIface P t = false ∧ ((∃ y, e x = .ifc t y ∧ r = (if ok then .tup [y, .raw (.bool true)] else y)) ∨ (∃ t' y, e x = .ifc t' y ∧ t' ≠ t ∧ ok = true ∧ zeroIs P t (zAV P 9 t) ∧ r = .tup [zAV P 9 t, .raw (.bool false)]) ∨ (e x = .raw .nilIface ∧ ok = true ∧ zeroIs P t (zAV P 9 t) ∧ r = .tup [zAV P 9 t, .raw (.bool false)]))) ∧ h' = h
  | .call c => match c.callee with
    | .builtin b => DBuiltin P e b c.args c.argTypes o.dst h r h'
    | .value x => if plainCall P c = true then (if isSl P o.type = true then DCallN P e x c.args o.dst h r h' else DCall0 P e x c.args h r h') else DCall1 P e x c.args o.dst h r h'
    | _ => False
  | _ => False
def cls (P : Program) (o : Oper) : Nat :=
  match o.op with
  | .load .. => 1
  | .box .. | .alloc .. | .buildSlice .. | .makeSlice .. => 2
  | .slice t _ _ _ _ => if isArr P t = true then 3 else 0
  | .convert s t _ => if isSl P s = true then 1 else if isSl P t = true then 2 else 0
  | .store .. => 3
  | .call c => match c.callee with
    | .builtin .len => 1
    | .builtin .min | .builtin .max => 0
    | .value _ => if plainCall P c = true then (if isSl P o.type = true then 2 else 0) else 3
    | _ => 3
  | _ => 0

variable {P : Program}
theorem Bnd.congr {e e' : Operand → AV} {y : Option Operand} {d n : Int} (h : ∀ x, y = some x → e x = e' x) (hb : Bnd e y d n) : Bnd e' y d n := by
  cases y with
  | none => exact hb
  | some x => obtain ⟨k, hk⟩ := hb; exact ⟨k, by rw [← h x rfl]; exact hk⟩
theorem argsOf_congr {e e' : Operand → AV} {x : Operand} {args : Array Operand} (hx : e x = e' x) (ha : ∀ y ∈ args, e y = e' y) : argsOf e x args = argsOf e' x args := by
  unfold argsOf
  rw [hx, List.map_congr_left (fun y hy => ha y (Array.mem_toList_iff.1 hy))]
theorem D_congr {e e' : Operand → AV} {o : Oper} {h h' : Hp} {r : AV} (hx : ∀ x ∈ o.op.operands, e x = e' x) (hd : D P e o h r h') : D P e' o h r h' := by
  unfold D at hd ⊢
  revert hx hd
  cases o.op with
  | call c =>
    intro hx hd
    simp only at hd ⊢
    cases hc : c.callee with
    | builtin b =>
      rw [hc] at hd
      simp only at hd ⊢
      have ha : ∀ y ∈ c.args.toList, e y = e' y := fun y hy => hx y (by simp [Op.operands, Call.operands, hc]; exact Array.mem_toList_iff.1 hy)
      unfold DBuiltin at hd ⊢
      generalize c.args.toList = as at hd ha ⊢
      generalize c.argTypes.toList = ts at hd ⊢
      split at hd
      · have h1 := ha _ (List.mem_cons_self)
        simp only [← h1]; exact hd
      · have h1 := ha _ (List.mem_cons_self)
        have h2 := ha _ (List.mem_cons_of_mem _ (List.mem_cons_self))
        simp only [← h1, ← h2]; exact hd
      · have h1 := ha _ (List.mem_cons_self)
        have h2 := ha _ (List.mem_cons_of_mem _ (List.mem_cons_self))
        simp only [← h1, ← h2]; exact hd
      · simp only [← List.map_congr_left ha]; exact hd
      · simp only [← List.map_congr_left ha]; exact hd
      · exact hd.elim
    | value x =>
      rw [hc] at hd
      simp only at hd ⊢
      have h0 : e x = e' x := hx x (by simp [Op.operands, Call.operands, hc])
      have ha : ∀ y ∈ c.args, e y = e' y := fun y hy => hx y (by simp [Op.operands, Call.operands, hc, hy])
      have := argsOf_congr h0 ha
      unfold DCall0 DCallN DCall1 at hd ⊢
      rw [← this]; exact hd
    | invoke r m => rw [hc] at hd; exact hd
  | slice t x lo hi mx =>
    intro hx hd
    cases mx with
    | some y => exact hd
    | none =>
      simp only at hd ⊢
      have h0 : e x = e' x := hx x (by simp [Op.operands])
      have h1 : ∀ y, lo = some y → e y = e' y := fun y hy => hx y (by simp [Op.operands, hy])
      have h2 : ∀ y, hi = some y → e y = e' y := fun y hy => hx y (by simp [Op.operands, hy])
      by_cases ha : isArr P t = true
      · rw [if_pos ha] at hd ⊢
        unfold DArr at hd ⊢
        obtain ⟨g1, m, sz, id, q, l, k, g2, g3, g4, g5, g6, g7, g8, g9, g10⟩ := hd
        exact ⟨g1, m, sz, id, q, l, k, g2, by rw [← h0]; exact g3, g4, g5, g6, g7, g8, g9.congr h1, g10⟩
      rw [if_neg ha] at hd ⊢
      refine ⟨?_, hd.2⟩
      have hd := hd.1
      unfold DSlice at hd ⊢
      rw [← h0]
      split
      · rename_i hc
        rw [if_pos hc] at hd
        obtain ⟨b, l, k, q1, q2, q3, q4⟩ := hd
        exact ⟨b, l, k, q1, q2.congr h1, q3.congr h2, q4⟩
      · rename_i hc
        rw [if_neg hc] at hd
        obtain ⟨el, sz, b, l, k, q1, q2, q3, q4⟩ := hd
        exact ⟨el, sz, b, l, k, q1, q2.congr h1, q3.congr h2, q4⟩
  | build t ps =>
    intro hx hd
    have : pmap e ps = pmap e' ps := List.map_congr_left fun p hp => by rw [hx p.2 (by simp [Op.operands]; exact ⟨p.1, Array.mem_toList_iff.1 hp⟩)]
    simp only at hd ⊢
    rw [← this]; exact hd
  | buildSlice t n ps =>
    intro hx hd
    have : pmap e ps = pmap e' ps := List.map_congr_left fun p hp => by rw [hx p.2 (by simp [Op.operands]; exact ⟨p.1, Array.mem_toList_iff.1 hp⟩)]
    simp only at hd ⊢
    rw [← this]; exact hd
  | makeFunc f first cap =>
    intro hx hd
    simp only at hd ⊢
    rw [← List.map_congr_left (fun y hy => hx y (by simp [Op.operands]; exact .inl (Array.mem_toList_iff.1 hy))), ← List.map_congr_left (fun y hy => hx y (by simp [Op.operands]; exact .inr (Array.mem_toList_iff.1 hy)))]
    exact hd
  | _ =>
    intro hx hd
    first
      | exact hd
      | (simp only at hd ⊢; simp only [Op.operands, List.mem_toArray, Array.mem_toList_iff, List.mem_cons, List.not_mem_nil, or_false, forall_eq_or_imp, forall_eq] at hx; simp only [← hx]; exact hd)
      | (simp only at hd ⊢; simp [Op.operands] at hx; simp [← hx]; exact hd)


theorem setH_mono {h g : Hp} (k : ∀ id ob, h id = some ob → g id = some ob) {sz : Nat} {x : AV} {l : List AV} (hr : rowOf h sz x = some l) : rowOf g sz x = some l := by
  cases x with
  | ow id s off len =>
    simp only [rowOf] at hr ⊢
    split at hr
    · rename_i e
      rw [if_pos e]
      cases hob : h id with
      | none => rw [hob] at hr; cases hr
      | some ob => rw [hob] at hr; rw [k id ob hob]; exact hr
    · cases hr
  | _ => exact hr
theorem ldAt_mono {h g : Hp} (k : ∀ id ob, h id = some ob → g id = some ob) {n : Nat} {ag : Bool} {x r : AV} (hr : ldAt h n ag x = some r) : ldAt g n ag x = some r := by
  cases x with
  | ptr id off =>
    simp only [ldAt] at hr ⊢
    cases hob : h id with
    | none => rw [hob] at hr; cases hr
    | some ob => rw [hob] at hr; rw [k id ob hob]; exact hr
  | ep id s i off =>
    simp only [ldAt] at hr ⊢
    cases hob : h id with
    | none => rw [hob] at hr; cases hr
    | some ob => rw [hob] at hr; rw [k id ob hob]; exact hr
  | _ => exact hr
theorem setH_ne {h : Hp} {d id : Nat} {ob : Ob} (hne : id ≠ d) : setH h d ob id = h id := by simp only [setH]; rw [if_neg hne]
theorem rowOf_down {h : Hp} {d : Nat} {ob : Ob} {sz : Nat} {x : AV} {l : List AV} (ht : x.top ≠ some d) (hr : rowOf (setH h d ob) sz x = some l) : rowOf h sz x = some l := by
  cases x with
  | ow id s off len =>
    have hne : id ≠ d := fun e => ht (by simp [AV.top, e])
    simp only [rowOf, setH_ne hne] at hr ⊢
    exact hr
  | _ => exact hr
theorem ldAt_down {h : Hp} {d : Nat} {ob : Ob} {n : Nat} {ag : Bool} {x r : AV} (ht : x.top ≠ some d) (hr : ldAt (setH h d ob) n ag x = some r) : ldAt h n ag x = some r := by
  cases x with
  | ptr id off =>
    have hne : id ≠ d := fun e => ht (by simp [AV.top, e])
    simp only [ldAt, setH_ne hne] at hr ⊢
    exact hr
  | ep id s i off =>
    have hne : id ≠ d := fun e => ht (by simp [AV.top, e])
    simp only [ldAt, setH_ne hne] at hr ⊢
    exact hr
  | _ => exact hr

theorem D_c0 {e : Operand → AV} {o : Oper} {h h' : Hp} {r : AV} (hc : cls P o = 0) (hd : D P e o h r h') : h' = h ∧ ∀ g, D P e o g r g := by
  unfold D at hd ⊢
  unfold cls at hc
  revert hd hc
  cases o.op with
  | call c =>
    intro hc hd
    simp only at hc hd ⊢
    cases hcc : c.callee with
    | builtin b =>
      rw [hcc] at hc hd
      cases b <;> simp at hc <;> simp only at hd ⊢ <;> unfold DBuiltin at hd ⊢ <;> exact ⟨hd.2, fun g => ⟨hd.1, rfl⟩⟩
    | value x =>
      rw [hcc] at hc hd
      simp only at hc hd ⊢
      split at hc
      · rename_i hp
        rw [if_pos hp] at hd
        split at hc
        · cases hc
        · rename_i hs
          rw [if_neg hs] at hd
          obtain ⟨f, xs, q1, q2, q3, q4, q5⟩ := hd
          exact ⟨q5, fun g => by rw [if_pos hp, if_neg hs]; exact ⟨f, xs, q1, q2, q3, q4, rfl⟩⟩
      · cases hc
    | invoke _ _ => rw [hcc] at hc; simp at hc
  | convert s t x =>
    intro hc hd
    simp only at hc hd ⊢
    unfold DConv at hd ⊢
    split at hc
    · cases hc
    · rename_i h1
      split at hc
      · cases hc
      · rename_i h2
        rw [if_neg h1, if_neg h2] at hd
        obtain ⟨v, w, q1, q2, q3, q4, q5⟩ := hd
        exact ⟨q5, fun g => by rw [if_neg h1, if_neg h2]; exact ⟨v, w, q1, q2, q3, q4, rfl⟩⟩
  | slice t x lo hi mx =>
    intro hc hd
    cases mx with
    | some y => exact hd.elim
    | none =>
      simp only at hc hd ⊢
      split at hc
      · cases hc
      · rename_i ha
        rw [if_neg ha] at hd
        exact ⟨hd.2, fun g => by rw [if_neg ha]; exact ⟨hd.1, trivial⟩⟩
  | _ => intro hc hd; first | exact ⟨hd.2, fun g => ⟨hd.1, rfl⟩⟩ | exact hd.elim | (simp at hc)
theorem D_c1 {e : Operand → AV} {o : Oper} {h h' : Hp} {r : AV} (hc : cls P o = 1) (hd : D P e o h r h') :
    h' = h ∧ (∀ g, (∀ id ob, h id = some ob → g id = some ob) → D P e o g r g) ∧ ∀ d ob g, h = setH g d ob → (∀ x ∈ o.op.operands, (e x).top ≠ some d) → D P e o g r g := by
  unfold D at hd ⊢
  unfold cls at hc
  revert hd hc
  cases o.op with
  | call c =>
    intro hc hd
    simp only at hc hd ⊢
    cases hcc : c.callee with
    | builtin b =>
      rw [hcc] at hc hd
      cases b <;> simp at hc
      simp only at hd ⊢
      unfold DBuiltin at hd ⊢
      have hops : ∀ x ∈ c.args.toList, x ∈ c.operands.toList := fun x hx => by simp [Call.operands, hcc]; exact Array.mem_toList_iff.1 hx
      simp only [Op.operands]
      generalize c.args.toList = as at hd hops ⊢
      generalize c.argTypes.toList = ts at hd ⊢
      match as, ts, hd with
      | [x], [t], hd =>
        simp only at hd ⊢
        by_cases hs : isStr P t = true
        · rw [if_pos hs] at hd
          obtain ⟨b, q1, q2, q3⟩ := hd
          exact ⟨q3, fun g _ => by rw [if_pos hs]; exact ⟨b, q1, q2, trivial⟩, fun d ob g _ _ => by rw [if_pos hs]; exact ⟨b, q1, q2, trivial⟩⟩
        · rw [if_neg hs] at hd
          obtain ⟨el, sz, b, l, q1, q2, q3, q4⟩ := hd
          refine ⟨q4, fun g k => by rw [if_neg hs]; exact ⟨el, sz, b, l, q1, setH_mono k q2, q3, trivial⟩, fun d ob g hg ht => ?_⟩
          rw [if_neg hs]
          subst hg
          exact ⟨el, sz, b, l, q1, rowOf_down (ht x (Array.mem_toList_iff.1 (hops x (by simp)))) q2, q3, trivial⟩
    | value x =>
      rw [hcc] at hc
      simp only at hc
      split at hc
      · split at hc <;> cases hc
      · cases hc
    | invoke _ _ => rw [hcc] at hc; simp at hc
  | convert s t x =>
    intro hc hd
    simp only at hc hd ⊢
    unfold DConv at hd ⊢
    split at hc
    · rename_i h1
      rw [if_pos h1] at hd
      rcases hd with ⟨el, b, l, bs, q1, q2, q3, q4, q5, q6, q7⟩ | ⟨el, b, id, len, l, q0, q1, q2, q3, q4, q5, q6, q7⟩
      · refine ⟨q7, fun g k => by rw [if_pos h1]; exact .inl ⟨el, b, l, bs, q1, q2, q3, setH_mono k q4, q5, q6, rfl⟩, fun d ob g hg ht => ?_⟩
        rw [if_pos h1]
        subst hg
        exact .inl ⟨el, b, l, bs, q1, q2, q3, rowOf_down (ht x (by simp [Op.operands])) q4, q5, q6, rfl⟩
      · refine ⟨q7, fun g k => by rw [if_pos h1]; exact .inr ⟨el, b, id, len, l, q0, q1, q2, q3, k _ _ q4, q5, q6, rfl⟩, fun d ob g hg ht => ?_⟩
        rw [if_pos h1]
        subst hg
        have hne : id ≠ d := fun e2 => ht x (by simp [Op.operands]) (by rw [q3, e2]; rfl)
        exact .inr ⟨el, b, id, len, l, q0, q1, q2, q3, (setH_ne hne).symm.trans q4, q5, q6, rfl⟩
    · split at hc <;> cases hc
  | load t x =>
    intro hc hd
    obtain ⟨⟨n, ag, q1, q2⟩, q3⟩ := hd
    refine ⟨q3, fun g k => ⟨⟨n, ag, q1, ldAt_mono k q2⟩, rfl⟩, fun d ob g hg ht => ?_⟩
    subst hg
    exact ⟨⟨n, ag, q1, ldAt_down (ht x (by simp [Op.operands])) q2⟩, rfl⟩
  | slice t x lo hi mx => intro hc hd; simp only at hc; split at hc <;> cases hc
  | _ => intro hc hd; simp at hc
theorem D_c2 {e : Operand → AV} {o : Oper} {h h' : Hp} {r : AV} (hc : cls P o = 2) (hd : D P e o h r h') : ∃ d ob, o.dst = some d ∧ h d = none ∧ h' = setH h d ob ∧ ∀ g, g d = none → D P e o g r (setH g d ob) := by
  unfold D at hd ⊢
  unfold cls at hc
  revert hd hc
  cases o.op with
  | call c =>
    intro hc hd
    simp only at hc hd ⊢
    cases hcc : c.callee with
    | builtin b => rw [hcc] at hc; cases b <;> simp at hc
    | value x =>
      rw [hcc] at hc hd
      simp only at hc hd ⊢
      split at hc
      · rename_i hp
        rw [if_pos hp] at hd
        split at hc
        · rename_i hs
          rw [if_pos hs] at hd
          obtain ⟨f, xs, q, q1, q2, q3, q4, q5, q6⟩ := hd
          rcases q6 with ⟨q6, q7⟩ | ⟨ob, q6, q7⟩
          · exact ⟨q, _, q4, q5, q7, fun g hg => by rw [if_pos hp, if_pos hs]; exact ⟨f, xs, q, q1, q2, q3, q4, hg, .inl ⟨q6, rfl⟩⟩⟩
          · exact ⟨q, _, q4, q5, q7, fun g hg => by rw [if_pos hp, if_pos hs]; exact ⟨f, xs, q, q1, q2, q3, q4, hg, .inr ⟨ob, q6, rfl⟩⟩⟩
        · cases hc
      · cases hc
    | invoke _ _ => rw [hcc] at hc; simp at hc
  | convert s t x =>
    intro hc hd
    simp only at hc hd ⊢
    unfold DConv at hd ⊢
    split at hc
    · cases hc
    · rename_i h1
      split at hc
      · rename_i h2
        rw [if_neg h1, if_pos h2] at hd
        obtain ⟨el, b, y, q, q1, q2, q3, q4, q5, q6, q7, q8⟩ := hd
        exact ⟨q, _, q5, q6, q8, fun g hg => by rw [if_neg h1, if_pos h2]; exact ⟨el, b, y, q, q1, q2, q3, q4, q5, hg, q7, rfl⟩⟩
      · cases hc
  | box t x =>
    intro hc hd
    obtain ⟨q, q1, q2, q3, q4, q5⟩ := hd
    exact ⟨q, _, q1, q2, q5, fun g hg => ⟨q, q1, hg, q3, q4, rfl⟩⟩
  | alloc t =>
    intro hc hd
    obtain ⟨q, q1, q2, q3, q4, q5⟩ := hd
    exact ⟨q, _, q1, q2, q5, fun g hg => ⟨q, q1, hg, q3, q4, rfl⟩⟩
  | buildSlice t n ps =>
    intro hc hd
    obtain ⟨el, sz, b, l, q, q1, q2, q3, q4, q5, q6, q7, q8, q9⟩ := hd
    exact ⟨q, _, q6, q7, q9, fun g hg => ⟨el, sz, b, l, q, q1, q2, q3, q4, q5, q6, hg, q8, rfl⟩⟩
  | makeSlice t x y =>
    intro hc hd
    obtain ⟨el, sz, b, n, c, k, k', q, q1, q2, q3, q4, q5, q6, q7, q8, q9, q10, q11, q12, q13⟩ := hd
    exact ⟨q, _, q10, q11, q13, fun g hg => ⟨el, sz, b, n, c, k, k', q, q1, q2, q3, q4, q5, q6, q7, q8, q9, q10, hg, q12, rfl⟩⟩
  | slice t x lo hi mx => intro hc hd; simp only at hc; split at hc <;> cases hc
  | _ => intro hc hd; simp at hc
end Go.Proofs.Ytejeemhenoobjaa.Asl

namespace Go.Proofs.Ytejeemhenoobjaa.Asl
open Go Go.RowKit
set_option linter.unusedVariables false
set_option linter.unusedSimpArgs false
variable {P : Program} {nt : Nat} {C : Cx} {σ : St} {a : Act} {o : Oper}

theorem elemAt_heap {h g : Hp} {sz i : Nat} {x : AV} : elemAt h sz i x = elemAt g sz i x := by cases x <;> rfl

theorem min_run {k k' : IntKind} {x y : Int} (ts : Array TypeId) (t : TypeId) (w : World) : (Builtin.min_ ts t #[.int k x, .int k' y]).run P w = .ok (.int k (if y < x then y else x)) w := by
  simp [Builtin.min_, Builtin.min2]
theorem max_run {k k' : IntKind} {x y : Int} (ts : Array TypeId) (t : TypeId) (w : World) : (Builtin.max_ ts t #[.int k x, .int k' y]).run P w = .ok (.int k (if y > x then y else x)) w := by
  simp [Builtin.max_, Builtin.max2]

theorem snd_minmax (s : Sat nt C σ a) {c : Call} (ho : o.op = .call c) {r : AV} :
    (c.callee = .builtin .min → minV (c.args.toList.map (evE σ.env)) = some r → Res P nt C σ a o r σ.heap) ∧ (c.callee = .builtin .max → maxV (c.args.toList.map (evE σ.env)) = some r → Res P nt C σ a o r σ.heap) := by
  have hargs := s.evs c.args.toList
  have key : ∀ (X Y : AV) (k k' : IntKind) (x y : Int), c.args.toList.map (evE σ.env) = [.raw (.int k x), .raw (.int k' y)] → c.args.map a.eval = #[.int k x, .int k' y] := by
    intro _ _ k k' x y h
    rw [h] at hargs
    have e2 : c.args.map a.eval = (c.args.toList.map a.eval).toArray := by rw [← Array.toList_map]
    rw [e2]
    generalize c.args.toList.map a.eval = vs at hargs
    cases hargs with
    | cons h1 h2 =>
      cases h2 with
      | cons h3 h4 =>
        cases h4
        rw [h1.raw_eq, h3.raw_eq]
  refine ⟨fun hc hm => ?_, fun hc hm => ?_⟩
  · unfold minV at hm
    split at hm
    · rename_i k x k' y e
      cases hm
      refine .mk s (v := .int k (if y < x then y else x)) ?_ (.raw _)
      simp [execOp, ho, resolve, hc, invoke, builtin, key .any .any k k' x y e, min_run]
    · cases hm
  · unfold maxV at hm
    split at hm
    · rename_i k x k' y e
      cases hm
      refine .mk s (v := .int k (if y > x then y else x)) ?_ (.raw _)
      simp [execOp, ho, resolve, hc, invoke, builtin, key .any .any k k' x y e, max_run]
    · cases hm

theorem D_sound {r : AV} {h' : Hp} (s : Sat nt C σ a) (hd : D P (evE σ.env) o σ.heap r h') (hdst : ∀ d, o.dst = some d → d < nt)
    (K : Act → World → Prop) (Q : Exit → Act → World → Prop) (hk : ∀ C' v, Ext C C' → Sat nt C' ⟨putE σ.env o.dst r, h'⟩ (a.put o.dst v) → K (a.put o.dst v) C'.W) : o.wp P a C.W K Q := by
  have fin : Res P nt C σ a o r h' → o.wp P a C.W K Q := fun h => h.wp hdst K Q hk
  unfold D at hd
  cases hop : o.op with
  | move x => rw [hop] at hd; obtain ⟨rfl, rfl⟩ := hd; exact fin (snd_move s (.inl hop))
  | assign x => rw [hop] at hd; obtain ⟨rfl, rfl⟩ := hd; exact fin (snd_move s (.inr hop))
  | pick c x y => rw [hop] at hd; obtain ⟨⟨b, hb, rfl⟩, rfl⟩ := hd; exact fin (snd_pick s hop hb)
  | nilCheck x => rw [hop] at hd; obtain ⟨⟨hb, rfl⟩, rfl⟩ := hd; exact fin (snd_nilCheck s hop hb)
  | extract x i => rw [hop] at hd; obtain ⟨⟨l, h1, h2⟩, rfl⟩ := hd; exact fin (snd_extract s hop h1 h2)
  | makeInterface t x => rw [hop] at hd; obtain ⟨⟨h1, rfl⟩, rfl⟩ := hd; exact fin (snd_makeInterface s hop h1)
  | makeFunc f first cap => rw [hop] at hd; obtain ⟨rfl, rfl⟩ := hd; exact fin (snd_makeFunc s hop)
  | fieldAddr t x f => rw [hop] at hd; obtain ⟨⟨off, n, ag, h1, h2⟩, rfl⟩ := hd; exact fin (snd_fieldAddr s hop h1 h2)
  | field t x f => rw [hop] at hd; obtain ⟨⟨off, n, ag, l, h1, h2, h3⟩, rfl⟩ := hd; exact fin (snd_field s hop h1 h2 h3)
  | load t x => rw [hop] at hd; obtain ⟨⟨n, ag, h1, h2⟩, rfl⟩ := hd; exact fin (snd_load s hop h1 h2)
  | store t x y => rw [hop] at hd; obtain ⟨n, ag, h1, h2, h3, h4, rfl⟩ := hd; exact fin (snd_store s hop h1 h2 h3 h4)
  | box t x => rw [hop] at hd; obtain ⟨q, h1, h2, h3, rfl, rfl⟩ := hd; exact fin (snd_box s hop h2 h3)
  | alloc t => rw [hop] at hd; obtain ⟨q, h1, h2, h3, rfl, rfl⟩ := hd; exact fin (snd_alloc s hop h2 h3)
  | binOp op t x y ty =>
    rw [hop] at hd
    obtain ⟨hd, rfl⟩ := hd
    rcases hd with ⟨v, u, w, h1, h2, h3, rfl⟩ | ⟨v, u, h1, h2, h3, h4⟩ | ⟨b, h1, h2, h3, h4⟩ | ⟨b, h1, rfl, h3, h4⟩ | ⟨ds, b, h1, h2, h3, h4⟩
    · exact fin (snd_binOp s hop h1 h2 h3)
    · rcases h4 with ⟨e, rfl⟩ | ⟨e, rfl⟩
      · exact fin ((snd_boolEq s hop h1 h2 h3).1 e)
      · exact fin ((snd_boolEq s hop h1 h2 h3).2 e)
    · rcases h4 with ⟨e, rfl⟩ | ⟨e, rfl⟩
      · exact fin ((snd_ptrNil s hop h1 h2 h3).1 e)
      · exact fin ((snd_ptrNil s hop h1 h2 h3).2 e)
    · rcases h4 with ⟨e, rfl⟩ | ⟨e, rfl⟩
      · exact fin ((snd_ifNil s hop h1 h3).1 e)
      · exact fin ((snd_ifNil s hop h1 h3).2 e)
    · rcases h4 with ⟨e, rfl⟩ | ⟨e, rfl⟩
      · exact fin ((snd_eqS s hop h1 h2 h3).1 e)
      · exact fin ((snd_eqS s hop h1 h2 h3).2 e)
  | unOp op t x => rw [hop] at hd; obtain ⟨⟨v, w, h1, h2, rfl⟩, rfl⟩ := hd; exact fin (snd_unOp s hop h1 h2)
  | convert sr t x =>
    rw [hop] at hd
    simp only [DConv] at hd
    split at hd
    · rcases hd with ⟨e, b, l, bs, h1, h2, h3, h4, h5, rfl, rfl⟩ | ⟨e, b, id, len, l, rfl, h1, h2, h3, h4, h5, rfl, rfl⟩
      · exact fin (snd_bytesStr s hop h1 h2 h3 h4 h5)
      · exact fin (snd_sameSl s hop h1 h2 h3 h4 h5)
    · split at hd
      · obtain ⟨e, b, x', q, h1, h2, h3, h4, h5, h6, rfl, rfl⟩ := hd
        exact fin (snd_strBytes s hop h1 h2 h3 h4 h6)
      · obtain ⟨v, w, h1, h2, h3, rfl, rfl⟩ := hd
        exact fin (snd_convert s hop h1 h2 h3)
  | index t x i => rw [hop] at hd; obtain ⟨⟨b, k, n, h1, h2, h3, h4, h5, rfl⟩, rfl⟩ := hd; exact fin (snd_index s hop h1 h2 h3 h4 h5)
  | slice t x lo hi mx =>
    rw [hop] at hd
    cases mx with
    | some y => exact hd.elim
    | none =>
      by_cases ha : isArr P t = true
      · simp only at hd
        rw [if_pos ha] at hd
        obtain ⟨rfl, m, sz, id, q, l, k, h1, h2, h3, h4, h5, h6, h7, h8, h9, h10, rfl, rfl⟩ := hd
        exact fin (snd_sliceArr s hop h1 h2 h3 h4 h5 h7 h8 h9 h10)
      simp only at hd
      rw [if_neg ha] at hd
      obtain ⟨hd, rfl⟩ := hd
      simp only [DSlice] at hd
      split at hd
      · rename_i hs
        obtain ⟨b, l, k, h1, h2, h3, h4, h5, h6, rfl⟩ := hd
        exact fin (snd_sliceStr s hop hs h1 h2 h3 h4 h5 h6)
      · obtain ⟨el, sz, b, l, k, h1, h2, h3, h4, h5, h6⟩ := hd
        rcases h6 with h6 | ⟨h6, h7, rfl⟩
        · exact fin (snd_sliceRow s hop h1 h2 h3 h4 h5 h6)
        · exact fin (snd_sliceNil s hop h1 h2 h3 h4 h5 h6 h7)
  | indexAddr t x i =>
    rw [hop] at hd
    obtain ⟨⟨el, sz, b, k, n, h1, h2, h3, h4⟩ | ⟨m, sz, k, n, id, off, h1, h2, h3, h4, h5, rfl⟩, rfl⟩ := hd
    · exact fin (snd_indexAddr s hop h1 h2 h3 (by rw [elemAt_heap (g := noHeap)]; exact h4))
    · exact fin (snd_indexArr s hop h1 h2 h3 h4 h5)
  | makeSlice t x y =>
    rw [hop] at hd
    obtain ⟨el, sz, b, n, c, k, k', q, h1, h2, h3, h4, h5, h6, h7, h8, h9, h10, h11, rfl, rfl⟩ := hd
    exact fin (snd_makeSlice s hop h1 h2 h3 h4 h5 h6 h7 h8 h9 h11)
  | build t ps => rw [hop] at hd; obtain ⟨⟨zs, l, h1, h2, h3, h4, rfl⟩, rfl⟩ := hd; exact fin (snd_build s hop h2 h3 h4)
  | buildSlice t n ps => rw [hop] at hd; obtain ⟨el, sz, b, l, q, h1, h2, h3, h4, h5, h6, h7, rfl, rfl⟩ := hd; exact fin (snd_buildSlice s hop h1 h2 h3 h4 h7 h5)
  | typeAssert x xt t ok =>
    rw [hop] at hd
    obtain ⟨⟨h1, h2⟩, rfl⟩ := hd
    refine fin (snd_assert s hop h1 ?_)
    rcases h2 with h2 | ⟨t', y, h2, h3, h4, h5, h6⟩ | ⟨h2, h3, h4, h5⟩
    · exact .inl h2
    · exact .inr (.inl ⟨t', y, _, h2, h3, h4, h5, h6⟩)
    · exact .inr (.inr ⟨_, h2, h3, h4, h5⟩)
  | call c =>
    rw [hop] at hd
    simp only at hd
    cases hc : c.callee with
    | builtin b =>
      rw [hc] at hd
      simp only [DBuiltin] at hd
      split at hd
      · rename_i x t e1 e2
        have hcc : c = { callee := .builtin .len, args := #[x], argTypes := #[t] } := by
          cases c; simp at hc e1 e2 ⊢
          exact ⟨hc, Array.toList_inj.1 (by simpa using e1), Array.toList_inj.1 (by simpa using e2)⟩
        split at hd
        · rename_i hs
          obtain ⟨b, h1, rfl, rfl⟩ := hd
          exact fin (snd_lenStr s hop hcc hs h1)
        · obtain ⟨el, sz, b, l, h1, h2, rfl, rfl⟩ := hd
          exact fin (snd_len s hop hcc h1 h2)
      · rename_i x y t u e1 e2
        have hcc : c = { callee := .builtin .append, args := #[x, y], argTypes := #[t, u] } := by
          cases c; simp at hc e1 e2 ⊢
          exact ⟨hc, Array.toList_inj.1 (by simpa using e1), Array.toList_inj.1 (by simpa using e2)⟩
        obtain ⟨el, sz, b, ys, q, h1, h2, h3, h4, h5⟩ := hd
        rcases h5 with ⟨id, len, l, g1, g2, g3, g4, g5, rfl, rfl⟩ | ⟨v, g1, g2, g3, g4, g5, rfl, rfl⟩
        · exact fin (snd_append s hop hcc h1 h2 h4 g1 g2 g3 g4 g5)
        · exact fin (snd_appendNil s hop hcc h1 h2 h4 g1 g2 g3 g4 g5)
      · rename_i x y t u e1 e2
        have hcc : c = { callee := .builtin .copy, args := #[x, y], argTypes := #[t, u] } := by
          cases c; simp at hc e1 e2 ⊢
          exact ⟨hc, Array.toList_inj.1 (by simpa using e1), Array.toList_inj.1 (by simpa using e2)⟩
        obtain ⟨el, sz, b, ys, id, off, len, l, h1, h2, h3, h4, h5, rfl, rfl⟩ := hd
        exact fin (snd_copy s hop hcc h1 h2 h3 h4 h5 rfl)
      · obtain ⟨h1, rfl⟩ := hd; exact fin ((snd_minmax s hop).1 hc h1)
      · obtain ⟨h1, rfl⟩ := hd; exact fin ((snd_minmax s hop).2 hc h1)
      · exact hd.elim
    | invoke _ _ => rw [hc] at hd; exact hd.elim
    | value x =>
      rw [hc] at hd
      have hargs : ∀ {f : FuncId} {xs : List AV}, argsOf (evE σ.env) x c.args = some (f, xs) → ∃ first cap, calleeOf (evE σ.env x) = some (f, first, cap) ∧ first ++ c.args.toList.map (evE σ.env) ++ cap = xs := by
        intro f xs h
        unfold argsOf at h
        obtain ⟨⟨f', fi, ca⟩, h1, h2⟩ := Option.map_eq_some_iff.1 h
        simp only [Prod.mk.injEq] at h2
        obtain ⟨rfl, rfl⟩ := h2
        exact ⟨fi, ca, h1, rfl⟩
      simp only at hd
      split at hd
      · split at hd
        · obtain ⟨f, xs, q, h1, h2, h3, h4, h5, h6⟩ := hd
          obtain ⟨first, cap, e1, e2⟩ := hargs h1
          rcases h6 with ⟨h6, rfl⟩ | ⟨ob, h6, rfl⟩
          · exact snd_callN s hop hc e1 h2 e2 h3 h5 h6 hdst K Q hk
          · exact snd_callO s hop hc e1 h2 e2 h3 h5 h6 hdst K Q hk
        · obtain ⟨f, xs, h1, h2, h3, h4, rfl⟩ := hd
          obtain ⟨first, cap, e1, e2⟩ := hargs h1
          exact snd_call0 s hop hc e1 h2 e2 h3 h4 hdst K Q hk
      · obtain ⟨f, xs, h1, h2, h3⟩ := hd
        obtain ⟨first, cap, e1, e2⟩ := hargs h1
        rcases h3 with ⟨h3, h4, h5, rfl⟩ | ⟨hs, hs', _, h3, h4, h5, h6, rfl⟩
        · exact snd_callB s hop hc e1 h2 e2 h3 h4 h5 hdst K Q hk
        · exact snd_callS s hop hc e1 h2 e2 h3 h4 h5 h6 hdst K Q hk
  | _ => rw [hop] at hd; exact hd.elim

def addrT : Op → Option Tmp
  | .load _ (.tmp t) => some t
  | .store _ (.tmp t) _ => some t
  | _ => none
def annOk (ann : Tmp → Option (Option Nat)) (ρ : Operand → AV) (o : Oper) : Prop := ∀ t q, addrT o.op = some t → ann t = some q → (ρ (.tmp t)).top = q
def sepA (ann : Tmp → Option (Option Nat)) (y x : Oper) : Bool := match addrT y.op, addrT x.op with
  | some a, some b => match ann a, ann b with
    | some p, some q => p != q
    | _, _ => false
  | _, _ => false
theorem ldAt_top {g h : Hp} {n : Nat} {ag : Bool} {X : AV} (hh : ∀ id, X.top = some id → g id = h id) : ldAt g n ag X = ldAt h n ag X := by
  cases X <;> simp only [ldAt] <;> first | rfl | (rw [hh _ rfl])
theorem stAt_top {h h' : Hp} {n : Nat} {y X : AV} (hs : stAt h n y X = some h') : ∃ id ob', X.top = some id ∧ h' = setH h id ob' ∧ ∀ g, g id = h id → stAt g n y X = some (setH g id ob') := by
  cases X with
  | ptr id off =>
    simp only [stAt] at hs
    split at hs
    · rename_i z hz
      obtain ⟨w, h1, rfl⟩ := Option.map_eq_some_iff.1 hs
      exact ⟨id, _, rfl, rfl, fun g hg => by simp only [stAt, hg, hz, h1]; rfl⟩
    · cases hs
  | ep id sz i off =>
    simp only [stAt] at hs
    split at hs
    · rename_i s l hz
      split at hs
      · rename_i hc
        obtain ⟨x, h1, h2⟩ := Option.bind_eq_some_iff.1 hs
        obtain ⟨w, h3, rfl⟩ := Option.map_eq_some_iff.1 h2
        refine ⟨id, _, rfl, rfl, fun g hg => ?_⟩
        simp only [stAt, hg, hz]
        rw [if_pos hc, h1, Option.bind_some, h3]; rfl
      · cases hs
    · cases hs
  | _ => simp [stAt] at hs
theorem D_addr {ρ : Operand → AV} {o : Oper} {h h' : Hp} {r : AV} {a : Tmp} (ha : addrT o.op = some a) (hd : D P ρ o h r h') : (h' = h ∧ ∃ n ag, ldAt h n ag (ρ (.tmp a)) = some r ∧ ∀ g, ldAt g n ag (ρ (.tmp a)) = some r → D P ρ o g r g) ∨ (∃ n v, stAt h n v (ρ (.tmp a)) = some h' ∧ ∀ g g', stAt g n v (ρ (.tmp a)) = some g' → D P ρ o g r g') := by
  unfold addrT at ha
  split at ha
  · rename_i ty t he
    cases ha
    unfold D at hd
    rw [he] at hd
    obtain ⟨⟨n, ag, h1, h2⟩, h3⟩ := hd
    exact .inl ⟨h3, n, ag, h2, fun g hg => by unfold D; rw [he]; exact ⟨⟨n, ag, h1, hg⟩, rfl⟩⟩
  · rename_i ty t v he
    cases ha
    unfold D at hd
    rw [he] at hd
    obtain ⟨n, ag, h1, h2, h3, h4, h5⟩ := hd
    exact .inr ⟨n, _, h4, fun g g' hg => by unfold D; rw [he]; exact ⟨n, ag, h1, h2, h3, hg, h5⟩⟩
  · cases ha
theorem sepA_d {ann : Tmp → Option (Option Nat)} {ρ : Operand → AV} {x y : Oper} {h h1 h2 : Hp} {rx ry : AV} (hs : sepA ann y x = true) (ay : annOk ann ρ y) (ax : annOk ann ρ x) (dy : D P ρ y h ry h1) (dx : D P ρ x h1 rx h2) : ∃ h1', D P ρ x h rx h1' ∧ D P ρ y h1' ry h2 := by
  unfold sepA at hs
  split at hs
  · rename_i a b ha hb
    split at hs
    · rename_i p q hp hq
      have hpq : p ≠ q := by simpa using hs
      have ty := ay a p ha hp
      have tx := ax b q hb hq
      have hne : ∀ i, (ρ (.tmp a)).top = some i → ∀ j, (ρ (.tmp b)).top = some j → i ≠ j := by
        intro i hi j hj e
        exact hpq (by rw [← ty, ← tx, hi, hj, e])
      rcases D_addr ha dy with ⟨rfl, n, ag, l1, k1⟩ | ⟨n, v, s1, k1⟩
      · rcases D_addr hb dx with ⟨rfl, n2, ag2, l2, k2⟩ | ⟨n2, v2, s2, k2⟩
        · exact ⟨_, dx, dy⟩
        · obtain ⟨id, ob', e1, rfl, e3⟩ := stAt_top s2
          refine ⟨_, dx, k1 _ ?_⟩
          rw [ldAt_top (h := h1) (fun i hi => by simp only [setH]; rw [if_neg (hne i hi id e1)])]
          exact l1
      · obtain ⟨id, ob', e1, rfl, e3⟩ := stAt_top s1
        rcases D_addr hb dx with ⟨rfl, n2, ag2, l2, k2⟩ | ⟨n2, v2, s2, k2⟩
        · refine ⟨h, k2 h ?_, dy⟩
          rw [ldAt_top (h := h) (fun j hj => by simp only [setH]; rw [if_neg (fun e => hne id e1 j hj e.symm)])] at l2
          exact l2
        · obtain ⟨id2, ob2, f1, rfl, f3⟩ := stAt_top s2
          have hd := hne id e1 id2 f1
          refine ⟨setH h id2 ob2, k2 _ _ (f3 h (by simp only [setH]; rw [if_neg (fun e => hd e.symm)])), ?_⟩
          rw [setH_comm hd]
          exact k1 _ _ (e3 _ (by simp only [setH]; rw [if_neg hd]))
    · cases hs
  · cases hs
def sysA (P : Program) (ann : Tmp → Option (Option Nat)) : Sys P where
  D ρ o h r h' := D P ρ o h r h' ∧ annOk ann ρ o
  cls := cls P
  sound := fun s hd hdst K Q hk => D_sound s hd.1 hdst K Q hk
  congr := fun {ρ ρ' o h h' r} hx hd => ⟨D_congr hx hd.1, fun t q h1 h2 => by
    have : Operand.tmp t ∈ o.op.operands := by
      revert h1
      cases o.op with
      | load ty x => cases x <;> simp [addrT, Op.operands]; rintro rfl; rfl
      | store ty x y => cases x <;> simp [addrT, Op.operands]; rintro rfl; exact .inl rfl
      | _ => simp [addrT]
    rw [← hx _ this]; exact hd.2 t q h1 h2⟩
  c0 := fun hc hd => ⟨(D_c0 hc hd.1).1, fun g => ⟨(D_c0 hc hd.1).2 g, hd.2⟩⟩
  c1 := fun hc hd => ⟨(D_c1 hc hd.1).1, fun g hg => ⟨(D_c1 hc hd.1).2.1 g hg, hd.2⟩⟩
  c1d := fun hc hd ht => ⟨(D_c1 hc hd.1).2.2 _ _ _ rfl ht, hd.2⟩
  c2 := fun hc hd => by
    obtain ⟨d, ob, h1, h2, h3, h4⟩ := D_c2 hc hd.1
    exact ⟨d, ob, h1, h2, h3, fun g hg => ⟨h4 g hg, hd.2⟩⟩
  sep := sepA ann
  sepd := fun hs hy hx => by
    obtain ⟨g, h1, h2⟩ := sepA_d hs hy.2 hx.2 hy.1 hx.1
    exact ⟨g, ⟨h1, hx.2⟩, h2, hy.2⟩
def sys (P : Program) : Sys P where
  D := D P
  cls := cls P
  sound := fun s hd hdst K Q hk => D_sound s hd hdst K Q hk
  congr := D_congr
  c0 := D_c0
  c1 := fun hc hd => ⟨(D_c1 hc hd).1, (D_c1 hc hd).2.1⟩
  c1d := fun hc hd ht => (D_c1 hc hd).2.2 _ _ _ rfl ht
  c2 := D_c2
  sep := fun _ _ => false
  sepd := fun hs => by cases hs

/-! ### Regions, for use -/
def RunK (P : Program) (ops : Array Oper) : List Oper → (Nat → AV) → Hp → ((Nat → AV) → Hp → Prop) → Prop
  | [], e, h, K => K e h
  | o :: l, e, h, K => ∃ r h1, DG (sys P) ops e o h r h1 ∧ RunK P ops l (putE e o.dst r) h1 K
theorem chain_of_run {ops : Array Oper} {K : (Nat → AV) → Hp → Prop} : ∀ (l : List Oper) (k : Nat) (e : Nat → AV) (h : Hp), ops.toList = ops.toList.take k ++ l → k + l.length = ops.size → RunK P ops l e h K → ∃ e' h', Chain (sys P) ops (List.range' k l.length) e h e' h' ∧ K e' h'
  | [], k, e, h, _, _, hr => ⟨e, h, ⟨rfl, rfl⟩, hr⟩
  | o :: l, k, e, h, hl, hk, hr => by
    obtain ⟨r, h1, hd, hr⟩ := hr
    have hkl : k < ops.size := by simp at hk; omega
    have ho : ops[k]? = some o := by
      rw [← Array.getElem?_toList, hl, List.getElem?_append_right (by simp; omega)]
      have : k - (ops.toList.take k).length = 0 := by simp; omega
      rw [this]; rfl
    have hl2 : ops.toList = ops.toList.take (k + 1) ++ l := by
      have e1 : ops.toList.take (k + 1) = ops.toList.take k ++ [o] := by
        rw [List.take_add_one, show ops.toList[k]? = some o by rw [Array.getElem?_toList]; exact ho]; rfl
      rw [e1]; simpa using hl
    obtain ⟨e', h', hc, hK⟩ := chain_of_run l (k + 1) _ _ hl2 (by simp at hk; omega) hr
    refine ⟨e', h', ?_, hK⟩
    rw [List.length_cons, List.range'_succ]
    exact ⟨o, r, h1, ho, hd, hc⟩
/-! ### Drawn regions whose loads and stores lie at different objects -/
def once (ops : Array Oper) : Bool := (List.range ops.size).all fun i => match ops[i]? with
  | some o => match addrT o.op with
    | some t => (ops.toList.drop i).all fun q => q.dst != some t
    | none => true
  | none => true
theorem putE_ne {e : Nat → AV} {d : Option Tmp} {r : AV} {t : Tmp} (h : d ≠ some t) : putE e d r t = e t := by
  cases d with
  | none => rfl
  | some u =>
    simp only [putE, setE]
    rw [if_neg (fun e => h (by rw [e]))]
theorem chain_keep {S : Sys P} {ops : Array Oper} {t : Tmp} {e' : Nat → AV} {h' : Hp} : ∀ (l : List Nat) (e : Nat → AV) (h : Hp), Chain S ops l e h e' h' → (∀ i ∈ l, ∀ o, ops[i]? = some o → o.dst ≠ some t) → e' t = e t
  | [], e, h, hc, _ => by obtain ⟨rfl, rfl⟩ := hc; rfl
  | i :: l, e, h, ⟨o, r, h1, ho, hd, hc⟩, hn => by
    rw [chain_keep l _ _ hc (fun j hj => hn j (List.mem_cons_of_mem _ hj))]
    have := hn i (by simp) o ho
    exact putE_ne this
theorem chainA {ann : Tmp → Option (Option Nat)} {ops : Array Oper} (honce : once ops = true) {e' : Nat → AV} {h' : Hp} (ha : ∀ t q, ann t = some q → (e' t).top = q) : ∀ (n k : Nat) (e : Nat → AV) (h : Hp), k + n = ops.size → Chain (sys P) ops (List.range' k n) e h e' h' → Chain (sysA P ann) ops (List.range' k n) e h e' h'
  | 0, k, e, h, _, hc => hc
  | n + 1, k, e, h, hk, hc => by
    rw [List.range'_succ] at hc ⊢
    obtain ⟨o, r, h1, ho, hd, hc⟩ := hc
    refine ⟨o, r, h1, ho, ?_, chainA honce ha n (k + 1) _ _ (by omega) hc⟩
    have hann : annOk ann (evE e) o := by
      intro t q h2 h3
      have h4 := (List.all_eq_true.1 honce) k (List.mem_range.2 (by omega))
      rw [ho] at h4
      simp only [h2] at h4
      have h5 : ∀ i, k ≤ i → ∀ o', ops[i]? = some o' → o'.dst ≠ some t := by
        intro i hi o' ho'
        have hm : o' ∈ ops.toList.drop k := by
          refine List.mem_of_getElem? (i := i - k) ?_
          rw [List.getElem?_drop, show k + (i - k) = i by omega, Array.getElem?_toList]; exact ho'
        have := (List.all_eq_true.1 h4) o' hm
        simpa using this
      have h6 := chain_keep _ _ _ hc (t := t) (fun i hi => h5 i (by obtain ⟨j, _, rfl⟩ := List.mem_range'.1 hi; omega))
      have h7 : putE e o.dst r t = e t := by
        have := h5 k (Nat.le_refl _) o ho
        exact putE_ne this
      show (e t).top = q
      rw [← h7, ← h6]
      exact ha t q h3
    unfold DG at hd ⊢
    cases hg : o.guard with
    | none => rw [hg] at hd; exact ⟨hd, hann⟩
    | some jw =>
      rw [hg] at hd
      obtain ⟨t, v, q1, q2, q3⟩ := hd
      exact ⟨t, v, q1, q2, q3.imp (fun x => ⟨x.1, x.2, hann⟩) id⟩
def annL : List (Tmp × Option Nat) → Tmp → Option (Option Nat)
  | [], _ => none
  | (u, q) :: l, t => if t = u then some q else annL l t
theorem annL_ok {e : Nat → AV} : ∀ {l : List (Tmp × Option Nat)}, (∀ p ∈ l, (e p.1).top = p.2) → ∀ t q, annL l t = some q → (e t).top = q
  | (u, q) :: l, hl, t, q', hh => by
    simp only [annL] at hh
    split at hh
    · rename_i e1; subst e1; cases hh; exact hl (t, q) (by simp)
    · exact annL_ok (fun p hp => hl p (by simp [hp])) t q' hh
theorem awp_regA {id : Nat} {ops : Array Oper} {draw : Bool} {Q : Exit → St → Prop} {σ : St} (l : List (Tmp × Option Nat)) (depth : Nat) (hm : P.follows .mixedOrders = true) (hok : okRegion (sysA P (annL l)) nt ops depth = true) (honce : once ops = true)
    (h : RunK P ops ops.toList σ.env σ.heap fun e h => (∀ p ∈ l, (e p.1).top = p.2) ∧ Q .normal ⟨e, h⟩) : AWP P nt (.region id ops draw) Q σ := by
  obtain ⟨e', h', hc, ha, hq⟩ := chain_of_run ops.toList 0 σ.env σ.heap (by simp) (by simp) h
  refine awp_region (S := sysA P (annL l)) depth hm hok (e' := e') (h' := h') ?_ hq
  rw [List.range_eq_range']
  refine chainA honce (annL_ok ha) _ _ _ _ (by simp) ?_
  simpa using hc

/-! ### Functions -/
def envOf (xs : List AV) : Nat → AV := fun t => xs.getD t (.raw undef)
/-- What a function hands back: its results' places. -/
def resAV (P : Program) (e : Nat → AV) (h : Hp) : List ResultVar → Option (List AV)
  | [] => some []
  | .tmp t :: l => (resAV P e h l).map (e t :: ·)
  | .cell x t :: l => match tyI P t with
    | some (n, ag) => match ldAt h n ag (e x), resAV P e h l with
      | some r, some m => some (r :: m)
      | _, _ => none
    | none => none
def outOf : List AV → AV
  | [x] => x
  | l => .tup l
theorem res_run (s : Sat nt C σ a) : ∀ (l : List ResultVar) (xs : List AV), resAV P σ.env σ.heap l = some xs →
    ∃ vs, (l.mapM (m := Sem) fun | .tmp t => pure (a.tmps.getD t undef) | .cell x t => do loadVar t (← asAddr (a.tmps.getD x undef))).run P C.W = .ok vs C.W ∧ RVs C xs vs
  | [], xs, h => by
    simp [resAV] at h; subst h
    exact ⟨[], rfl, .nil⟩
  | .tmp t :: l, xs, h => by
    simp only [resAV, Option.map_eq_some_iff] at h
    obtain ⟨ys, h, rfl⟩ := h
    obtain ⟨vs, hr, hv⟩ := res_run s l ys h
    refine ⟨a.tmps.getD t undef :: vs, ?_, .cons (s.env t) hv⟩
    rw [List.mapM_cons, Sem.run_bind]
    simp only [Sem.run_pure, Result.andThen_ok, Sem.run_bind, hr]
  | .cell x t :: l, xs, h => by
    simp only [resAV] at h
    split at h
    · rename_i n ag ht
      split at h
      · rename_i r m h1 h2
        cases h
        obtain ⟨vs, hr, hv⟩ := res_run s l m h2
        obtain ⟨b, off, c, hx, hrd, hn, hc, hag⟩ := ldAt_ok s (s.env x) h1
        obtain ⟨v, hrun, hv2⟩ := run_loadVar ht hrd hn hc hag
        refine ⟨v :: vs, ?_, .cons hv2 hv⟩
        rw [List.mapM_cons, Sem.run_bind]
        have ha : (asAddr (a.tmps.getD x undef)).run P C.W = .ok ⟨b, off, none⟩ C.W := by rw [hx]; rfl
        simp only [Sem.run_bind, ha, Result.andThen_ok, hrun, hr, Sem.run_pure]
      · cases h
    · cases h
theorem results_run (s : Sat nt C σ a) {fn : Func} {xs : List AV} (h : resAV P σ.env σ.heap fn.results.toList = some xs) : ∃ v, (results fn a.tmps).run P C.W = .ok v C.W ∧ RV C (outOf xs) v := by
  obtain ⟨vs, hr, hv⟩ := res_run s _ _ h
  have hlen := hv.len
  have hm : (fn.results.mapM (m := Sem) fun | .tmp t => pure (a.tmps.getD t undef) | .cell x t => do loadVar t (← asAddr (a.tmps.getD x undef))).run P C.W = .ok vs.toArray C.W := by
    rw [← Array.toArray_toList (xs := fn.results), List.mapM_toArray, Sem.run_map, hr]; rfl
  unfold results
  rw [Sem.run_bind]
  refine ⟨if h : vs.toArray.size = 1 then vs.toArray[0] else .tuple vs.toArray, ?_, ?_⟩
  · erw [hm]; rfl
  · cases hv with
    | nil => exact .tup .nil
    | cons h1 h2 =>
      cases h2 with
      | nil => simpa [outOf] using h1
      | cons h3 h4 => simpa [outOf] using RV.tup (.cons h1 (.cons h3 h4))

def layB (P : Program) (t : TypeId) (zs : List AV) : Bool := match P.underlying t with
  | some (.struct fs) => fs.size == zs.length && (List.range fs.size).all fun i => match fs[i]?, zs[i]? with
    | some d, some z => d.offset == AV.sizes (zs.take i) && (P.info? d.type).map (·.size) == some z.size
    | _, _ => true
  | _ => false
theorem layIs_of {t : TypeId} {zs : List AV} (h : layB P t zs = true) : layIs P t zs := by
  unfold layB at h
  split at h
  · rename_i fs hu
    simp only [Bool.and_eq_true, beq_iff_eq] at h
    refine ⟨fs, hu, h.1, fun i d z hd hz => ?_⟩
    have := (List.all_eq_true.1 h.2) i (List.mem_range.2 (Array.getElem?_eq_some_iff.1 hd).1)
    rw [hd, hz] at this
    simpa using this
  · cases h
end Go.Proofs.Ytejeemhenoobjaa.Asl

