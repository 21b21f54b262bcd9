/- Rows that are made, arrays, equality of structs. -/
import Derived.Test.YtngeckkebejhiaaDoorAK
import Derived.Laws.MakeOwn
import Derived.Laws.StructEq
namespace Go.Proofs.YtngeckkebejhiaaDoor.Asl
open Go Go.RowKit
set_option linter.unusedVariables false
set_option linter.unusedSimpArgs false
variable {P : Program} {nt : Nat} {C : Cx} {σ : St} {a : Act} {o : Oper}

theorem snd_makeSlice (s : Sat nt C σ a) {t : TypeId} {x y : Operand} (ho : o.op = .makeSlice t x y) {e : TypeId} {sz bytes : Nat} (ht : rowI P t = some (e, sz, bytes)) {k k' : IntKind} {n c : Int} (hx : evE σ.env x = .raw (.int k n)) (hy : evE σ.env y = .raw (.int k' c)) (h0 : 0 ≤ n) (h1 : n ≤ c)
    (hb : c * bytes ≤ 140737488355328) (hc : c ≤ 140737488355328) {z : AV} (hz : zeroIs P e z) (hzs : z.size = sz) {d : Nat} (hd : σ.heap d = none) : Res P nt C σ a o (.ow d sz 0 n.toNat) (setH σ.heap d (.arr sz (List.replicate n.toNat z))) := by
  obtain ⟨hu, ti, zv, hti, hzv, hsz, hby, hzsz, hpos⟩ := rowI_at ht
  obtain ⟨v, hzr, hzv2, hz1⟩ := hz.run (C := C) C.W
  have hzc := hzv2.cells hz1
  have hveq : v = zv := by
    have : (zeroValue e).run P C.W = .ok zv C.W := by simp [zeroValue, typeInfo, program, Sem.run, hti, hzv]
    rw [hzr] at this
    cases this; rfl
  subst hveq
  have hrun := run_make (P := P) C.W t e ti v hu hti hzv k k' n c h0 h1 (by rw [hby, Int.mul_comm]; omega) (by omega)
  rw [hsz] at hrun
  have hflat : (madeCells v.cells (c.toNat * sz)).toList = (List.replicate n.toNat v.cells.toList).flatten ++ (List.replicate (c.toNat - n.toNat) v.cells.toList).flatten := by
    unfold madeCells
    rw [Array.toList_map, Array.toList_range, hzsz, range_flat v.cells hzsz hpos, ← List.flatten_append, List.replicate_append_replicate]
    congr 2; omega
  have hall : ∀ x ∈ List.replicate n.toNat z, x.size = sz := fun x hx => by rw [List.eq_of_mem_replicate hx]; exact hzs
  have hg := Grow.alloc C.W (.cells (madeCells v.cells (c.toNat * sz)) e)
  refine ⟨_, .slice (some ⟨C.W.heap.size, 0, none⟩) n.toNat c.toNat, newC C (C.W.alloc (.cells (madeCells v.cells (c.toNat * sz)) e)) d c.toNat, ?_, .inl rfl, newC_ext s.heap hg hd _, newArr_sat (cs := (List.replicate n.toNat v.cells.toList).flatten) (rest := (List.replicate (c.toNat - n.toNat) v.cells.toList).flatten) (ty := e) s hd (zeros_RCs hzc _) hall ?_ hpos hg ?_, newC_ow (by omega)⟩
  · simp [execOp, ho, s.raw hx, s.raw hy, hrun, newC]
  · rw [← hflat, Array.length_toList, size_madeCells]
  · rw [← hflat]
    show (C.W.heap.push _)[C.W.heap.size]? = _
    simp

/-! ### Arrays in variables -/
def arrI (P : Program) (t : TypeId) : Option (Nat × Nat) := match P.underlying t with
  | some (.array n e) => match P.info? e with
    | some i => if i.size ≠ 0 then some (n, i.size) else none
    | none => none
  | _ => none
theorem arrI_at {t : TypeId} {n sz : Nat} (h : arrI P t = some (n, sz)) : ∃ e i, P.underlying t = some (.array n e) ∧ P.info? e = some i ∧ i.size = sz ∧ 0 < sz := by
  unfold arrI at h
  split at h
  · rename_i n' e hu
    split at h
    · rename_i i hi
      split at h
      · rename_i h0
        simp only [Option.some.injEq, Prod.mk.injEq] at h
        obtain ⟨rfl, rfl⟩ := h
        exact ⟨e, i, hu, hi, rfl, by omega⟩
      · cases h
    · cases h
  · cases h
theorem snd_indexArr (s : Sat nt C σ a) {t : TypeId} {x i : Operand} (ho : o.op = .indexAddr t x i) {m sz : Nat} (ht : arrI P t = some (m, sz)) {k : IntKind} {n : Int} (hi : evE σ.env i = .raw (.int k n)) (h0 : 0 ≤ n) (h1 : n < m) {id off : Nat} (hx : evE σ.env x = .ptr id off) :
    Res P nt C σ a o (.ptr id (off + n.toNat * sz)) σ.heap := by
  obtain ⟨e, ti, hu, hti, hsz, hpos⟩ := arrI_at ht
  have hv := s.ev x
  rw [hx] at hv
  generalize hw : a.eval x = w at hv
  cases hv with
  | ptr hι =>
    refine .mk s (v := .pointer (some ⟨_, off + n.toNat * sz, none⟩)) ?_ (.ptr hι)
    simp [execOp, ho, Instr.indexAt, Instr.sureAddr, s.raw hi, asIntOf, underlying, program, Sem.run, hu, hw, h0, h1, sizeOf, typeInfo, hti, hsz, add_at]
theorem snd_sliceArr (s : Sat nt C σ a) {t : TypeId} {x : Operand} {lo : Option Operand} (ho : o.op = .slice t x lo none none) {m sz : Nat} (ht : arrI P t = some (m, sz)) {id d : Nat} (hx : evE σ.env x = .ptr id 0) {l : List AV} (hob : σ.heap id = some (.box (.agg l))) (hl : l.length = m) (hs : ∀ x ∈ l, x.size = sz) (hd : σ.heap d = none) {k : Int} (hlo : Bnd (evE σ.env) lo 0 k) (hk0 : 0 ≤ k) (hk : k < m) :
    Res P nt C σ a o (.ow d sz k.toNat (m - k.toNat)) (setH (setH σ.heap id .dead) d (.arr sz l)) := by
  obtain ⟨e, ti, hu, hti, hsz, hpos⟩ := arrI_at ht
  obtain ⟨b, T, cs, ty, h1, h2, h3, h4⟩ := s.heap.at_ id _ hob
  have hv := s.ev x
  rw [hx] at hv
  generalize hw : a.eval x = w at hv
  cases hv with
  | ptr hι =>
    rw [h1] at hι; cases hι
    have hlen : cs.toList.length = m * sz := by rw [h4.ag.len, AV.sizes_all hs, hl]
    have hu0 : Up C (placeC C C.W d b m) := ⟨fun _ h => h, fun k hk => rfl, fun i p hp2 => by
      simp only [placeC]; rw [if_neg (fun e => by subst e; rw [s.heap.no i hd] at hp2; cases hp2)]; exact hp2⟩
    obtain ⟨u, ex, sat⟩ := place_sat (d := d) (T' := m) (ob' := .arr sz l) s hob rfl hd h1 h2 (Put.refl _ _) rfl ⟨b, m, cs, ty, (0, 0), cs.toList, [], by simp [placeC], h2, h3, ⟨fun o _ h => by simp at h, Nat.le_refl _⟩, by simp, h4.ag.up hu0, hs, by simpa using hlen, hpos⟩
    have hb := bounds_run (P := P) (isS := false) (hi := none) (len := m) (cap := m) (h := m) s hlo rfl hk0 (by omega) (by omega) (Nat.le_refl _) C.W
    refine ⟨_, .slice (some ⟨b, k.toNat * sz, none⟩) (m - k.toNat) (m - k.toNat), placeC C C.W d b m, ?_, .inl rfl, ex, sat, ?_⟩
    · have hne : ¬ m = k.toNat := by omega
      simp at hb
      simp [execOp, ho, Instr.sliceAt, Instr.sureAddr, underlying, program, Sem.run, hu, hw, hb, sizeOf, typeInfo, hti, hsz, placeC, hne, add_at]
    · exact RV.ow (C := placeC C C.W d b m) (id := d) (sz := sz) (off := k.toNat) (len := m - k.toNat) (b := b) (T := m) (by simp [placeC]) (by omega)

/-! ### Structs that are compared -/
inductive Eqd where
  | b | i | s
  | st (l : List Eqd)
mutual
def Eqd.size : Eqd → Nat
  | .st l => Eqd.sizes l
  | _ => 1
def Eqd.sizes : List Eqd → Nat
  | [] => 0
  | d :: l => d.size + Eqd.sizes l
end
def Eqd.isSt : Eqd → Bool
  | .st _ => true
  | _ => false
def eqds (P : Program) (g : TypeId → Option Eqd) : List Field → Nat → Option (List Eqd)
  | [], _ => some []
  | f :: fs, off => if f.name ≠ "_" ∧ f.offset = off then match g f.type with
    | some d => if tyI P f.type = some (d.size, d.isSt) then (eqds P g fs (off + d.size)).map (d :: ·) else none
    | none => none
    else none
def eqd (P : Program) : Nat → TypeId → Option Eqd
  | 0, _ => none
  | m + 1, t => match P.underlying t with
    | some .bool => some .b
    | some (.int _) => some .i
    | some .string => some .s
    | some (.struct fs) => if P.stoodInHeld t = false then (eqds P (eqd P m) fs.toList 0).map .st else none
    | _ => none
def eqB : AV → AV → Option Bool
  | .raw (.bool x), .raw (.bool y) => some (x == y)
  | _, _ => none
def eqI : AV → AV → Option Bool
  | .raw (.int k x), .raw (.int k' y) => if k = k' then some (decide (x = y)) else none
  | _, _ => none
def eqS : AV → AV → Option Bool
  | .raw (.string x), .raw (.string y) => some (decide (x = y))
  | _, _ => none
theorem eqB_inv {x y : AV} {b : Bool} (h : eqB x y = some b) : ∃ p q, x = .raw (.bool p) ∧ y = .raw (.bool q) ∧ b = (p == q) := by
  unfold eqB at h
  split at h
  · cases h; exact ⟨_, _, rfl, rfl, rfl⟩
  · cases h
theorem eqI_inv {x y : AV} {b : Bool} (h : eqI x y = some b) : ∃ k p q, x = .raw (.int k p) ∧ y = .raw (.int k q) ∧ b = decide (p = q) := by
  unfold eqI at h
  split at h
  · split at h
    · rename_i e; subst e; cases h; exact ⟨_, _, _, rfl, rfl, rfl⟩
    · cases h
  · cases h
theorem eqS_inv {x y : AV} {b : Bool} (h : eqS x y = some b) : ∃ p q, x = .raw (.string p) ∧ y = .raw (.string q) ∧ b = decide (p = q) := by
  unfold eqS at h
  split at h
  · cases h; exact ⟨_, _, rfl, rfl, rfl⟩
  · cases h
def AV.parts : AV → Option (List AV)
  | .agg l => some l
  | _ => none
theorem AV.parts_inv {x : AV} {l : List AV} (h : x.parts = some l) : x = .agg l := by
  cases x <;> simp [AV.parts] at h
  rw [h]
mutual
def eqV : Eqd → AV → AV → Option Bool
  | .b, x, y => eqB x y
  | .i, x, y => eqI x y
  | .s, x, y => eqS x y
  | .st ds, x, y => match x.parts, y.parts with
    | some l, some m => eqVs ds l m
    | _, _ => none
def eqVs : List Eqd → List AV → List AV → Option Bool
  | [], [], [] => some true
  | d :: ds, x :: l, y :: m => match eqV d x y, eqVs ds l m with
    | some p, some q => some (p && q)
    | _, _ => none
  | _, _, _ => none
end
theorem eqV_st {ds : List Eqd} {x y : AV} {b : Bool} (h : eqV (.st ds) x y = some b) : ∃ l m, x = .agg l ∧ y = .agg m ∧ eqVs ds l m = some b := by
  unfold eqV at h
  split at h
  · rename_i l m h1 h2
    exact ⟨l, m, AV.parts_inv h1, AV.parts_inv h2, h⟩
  · cases h
mutual
theorem eqV_size : ∀ (d : Eqd) (x y : AV) (b : Bool), eqV d x y = some b → x.size = d.size ∧ y.size = d.size ∧ x.isAgg = d.isSt ∧ y.isAgg = d.isSt
  | .b, x, y, b, h => by
    unfold eqV at h
    obtain ⟨p, q, rfl, rfl, _⟩ := eqB_inv h
    simp [AV.size, Eqd.size, AV.isAgg, Eqd.isSt]
  | .i, x, y, b, h => by
    unfold eqV at h
    obtain ⟨k, p, q, rfl, rfl, _⟩ := eqI_inv h
    simp [AV.size, Eqd.size, AV.isAgg, Eqd.isSt]
  | .s, x, y, b, h => by
    unfold eqV at h
    obtain ⟨p, q, rfl, rfl, _⟩ := eqS_inv h
    simp [AV.size, Eqd.size, AV.isAgg, Eqd.isSt]
  | .st ds, x, y, b, h => by
    obtain ⟨l, m, rfl, rfl, h⟩ := eqV_st h
    have := eqVs_size ds _ _ b h
    simp [AV.size, Eqd.size, AV.isAgg, Eqd.isSt, this]
theorem eqVs_size : ∀ (d : List Eqd) (x y : List AV) (b : Bool), eqVs d x y = some b → AV.sizes x = Eqd.sizes d ∧ AV.sizes y = Eqd.sizes d
  | [], [], [], b, h => by simp [AV.sizes, Eqd.sizes]
  | d :: ds, x :: l, y :: m, b, h => by
    simp only [eqVs] at h
    split at h
    · rename_i p q e1 e2
      have h1 := eqV_size d x y p e1
      have h2 := eqVs_size ds l m q e2
      simp [AV.sizes, Eqd.sizes, h1, h2]
    · cases h
  | [], _ :: _, _, b, h => by simp [eqVs] at h
  | [], [], _ :: _, b, h => by simp [eqVs] at h
  | _ :: _, [], _, b, h => by simp [eqVs] at h
  | _ :: _, _ :: _, [], b, h => by simp [eqVs] at h
end
theorem part_ok {t n : Nat} {ag : Bool} (ht : tyI P t = some (n, ag)) {z : AV} {c p r : List Value} (hz : RC C z c) (hn : z.size = n) (hag : z.isAgg = ag) : ∃ w, (part t (p ++ (c ++ r)).toArray p.length).run P C.W = .ok w C.W ∧ RV C z w := by
  have hl := hz.len
  unfold part
  simp only [Sem.run_bind, tyI_agg ht, Result.andThen_ok]
  cases ag with
  | true =>
    refine ⟨.agg c.toArray, ?_, hz.val.1 hag⟩
    simp only [if_true, Sem.run_bind, tyI_size ht, Result.andThen_ok, Sem.run_pure]
    congr 2
    apply Array.toList_inj.1
    simp [List.drop_append, List.take_append, ← hn, ← hl]
  | false =>
    obtain ⟨v, rfl, hv, _⟩ := hz.nag hag
    refine ⟨v, ?_, hv⟩
    simp
theorem eqd_run : ∀ (m : Nat) (t : TypeId) (d : Eqd), eqd P m t = some d → ∀ (x y : AV) (v u : Value) (b : Bool) (k : Nat), RV C x v → RV C y u → eqV d x y = some b → (Op.equalIn (m + k) t v u).run P C.W = .ok b C.W := by
  intro m
  induction m with
  | zero => intro t d h; simp [eqd] at h
  | succ m IH =>
    intro t d h x y v u b k hx hy hb
    have fields : ∀ (fs : List Field) (off : Nat) (ds : List Eqd), eqds P (eqd P m) fs off = some ds → ∀ (l l' : List AV) (p q p' q' : List Value) (b : Bool), p.length = off → p'.length = off → RCs C l q → RCs C l' q' → eqVs ds l l' = some b → (Op.eqFields (m + k) (p ++ q).toArray (p' ++ q').toArray fs).run P C.W = .ok b C.W := by
      intro fs
      induction fs with
      | nil =>
        intro off ds h l l' p q p' q' b hp hp' hl hl' hb
        simp [eqds] at h; subst h
        cases l <;> cases l' <;> simp [eqVs] at hb
        subst hb
        simp [Op.eqFields]
      | cons f fs ih =>
        intro off ds h l l' p q p' q' b hp hp' hl hl' hb
        simp only [eqds] at h
        split at h
        · rename_i hc
          split at h
          · rename_i d hd
            split at h
            · rename_i hty
              obtain ⟨ds', h2, rfl⟩ := Option.map_eq_some_iff.1 h
              cases l with
              | nil => simp [eqVs] at hb
              | cons z l =>
                cases l' with
                | nil => simp [eqVs] at hb
                | cons z' l' =>
                  simp only [eqVs] at hb
                  split at hb
                  · rename_i b1 b2 e1 e2
                    cases hb
                    cases hl with
                    | cons hz hl =>
                      rename_i c cs
                      cases hl' with
                      | cons hz' hl' =>
                        rename_i c' cs'
                        obtain ⟨s1, s2, s3, s4⟩ := eqV_size d z z' b1 e1
                        obtain ⟨w, p1, hw⟩ := part_ok (p := p) (r := cs) hty hz s1 s3
                        obtain ⟨w', p2, hw'⟩ := part_ok (p := p') (r := cs') hty hz' s2 s4
                        have p3 := IH f.type d hd z z' w w' b1 k hw hw' e1
                        have p4 := ih (off + d.size) ds' h2 l l' (p ++ c) cs (p' ++ c') cs' b2 (by rw [List.length_append, hp, hz.len, s1]) (by rw [List.length_append, hp', hz'.len, s2]) hl hl' e2
                        rw [hp, ← hc.2] at p1
                        rw [hp', ← hc.2] at p2
                        simp only [List.append_assoc] at p4
                        simp only [Op.eqFields, hc.1, ne_eq, not_false_eq_true, if_true, Sem.run_bind, p1, p2, p3, Result.andThen_ok]
                        cases b1
                        · simp
                        · simpa using p4
                  · cases hb
            · cases h
          · cases h
        · cases h
    have hd : m + 1 + k = (m + k) + 1 := by omega
    rw [hd]
    simp only [eqd] at h
    split at h
    · rename_i hu
      cases h
      unfold eqV at hb
      obtain ⟨p, q, rfl, rfl, rfl⟩ := eqB_inv hb
      cases hx; cases hy
      exact run_equalIn_bool C.W (m + k) t _ _ hu
    · rename_i hu
      cases h
      unfold eqV at hb
      obtain ⟨kk, p, q, rfl, rfl, rfl⟩ := eqI_inv hb
      cases hx; cases hy
      rw [run_equalIn_int C.W (m + k) t _ _ _ _ hu, beq_int]
    · rename_i hu
      cases h
      unfold eqV at hb
      obtain ⟨p, q, rfl, rfl, rfl⟩ := eqS_inv hb
      cases hx; cases hy
      rw [run_equalIn_string C.W (m + k) t _ _ hu, beq_str]
    · rename_i fs hu
      split at h
      · rename_i hst
        obtain ⟨ds, h2, rfl⟩ := Option.map_eq_some_iff.1 h
        obtain ⟨l, l', rfl, rfl, hb⟩ := eqV_st hb
        obtain ⟨cs, rfl, hc⟩ := hx.agg_inv
        obtain ⟨cs', rfl, hc'⟩ := hy.agg_inv
        have hfs : P.fieldsOf t = fs := by simp [Program.fieldsOf, hu]
        rw [run_equalIn_struct C.W (m + k) t _ _ (by rw [hfs]; exact hu) hst, hfs]
        have := fields fs.toList 0 ds h2 _ _ [] cs [] cs' b rfl rfl hc hc' hb
        simpa using this
      · cases h
    · cases h
def guardless (P : Program) (t : TypeId) : Bool := !(P.eqGuardType P.depth t)
theorem snd_eqS (s : Sat nt C σ a) {op : BinOp} {t ty : TypeId} {x y : Operand} (ho : o.op = .binOp op t x y ty) {ds : List Eqd} {b : Bool} (ht : eqd P 9 t = some (.st ds)) (hg : guardless P t = true) (h : eqV (.st ds) (evE σ.env x) (evE σ.env y) = some b) :
    (op = .eql → Res P nt C σ a o (.raw (.bool b)) σ.heap) ∧ (op = .neq → Res P nt C σ a o (.raw (.bool !b)) σ.heap) := by
  have hrun := eqd_run (C := C) 9 t _ ht _ _ _ _ b 9991 (s.ev x) (s.ev y) h
  have hx := s.ev x
  have hy := s.ev y
  obtain ⟨l, l', hX, hY, _⟩ := eqV_st h
  rw [hX] at hx
  rw [hY] at hy
  obtain ⟨cs, e1, _⟩ := hx.agg_inv
  obtain ⟨cs', e2, _⟩ := hy.agg_inv
  have hequal : (Op.equal t (.agg cs.toArray) (.agg cs'.toArray)).run P C.W = .ok b C.W := by rw [← e1, ← e2]; exact hrun
  have hgd : ∀ op, (eqGuard op t x y (.agg cs.toArray) (.agg cs'.toArray)).run P C.W = .ok () C.W := by
    intro op
    simp [guardless] at hg
    cases op <;> first | rfl | (simp [eqGuard, program, Sem.run, hg])
  refine ⟨?_, ?_⟩ <;> rintro rfl
  · exact .mk s (v := .bool b) (by simp [execOp, ho, e1, e2, hgd, binOp, hequal]) (.raw _)
  · exact .mk s (v := .bool !b) (by simp [execOp, ho, e1, e2, hgd, binOp, hequal]) (.raw _)
end Go.Proofs.YtngeckkebejhiaaDoor.Asl
