/- Rows. -/
import Derived.Test.YtngeckkebejhiaaDoorAF
import Derived.Laws.AppendOwn
namespace Go.Proofs.YtngeckkebejhiaaDoor.Asl
open Go Go.RowKit
set_option linter.unusedVariables false
variable {P : Program} {nt : Nat} {C : Cx} {σ : St} {a : Act} {o : Oper}

/-- A type of rows: the elements' type, how many cells, how many bytes each has. -/
def rowI (P : Program) (t : TypeId) : Option (TypeId × Nat × Nat) :=
  match P.underlying t with
  | some (.slice e) => match P.info? e with
    | some i => match i.zero with
      | some z => if i.size ≠ 0 ∧ z.cells.size = i.size then some (e, i.size, i.bytes) else none
      | none => none
    | none => none
  | _ => none
theorem rowI_at {t e : TypeId} {sz bytes : Nat} (h : rowI P t = some (e, sz, bytes)) : P.underlying t = some (.slice e) ∧ ∃ i z, P.info? e = some i ∧ i.zero = some z ∧ i.size = sz ∧ i.bytes = bytes ∧ z.cells.size = sz ∧ 0 < sz := by
  unfold rowI at h
  split at h
  · rename_i e' hu
    split at h
    · rename_i i hi
      split at h
      · rename_i z hz
        split at h
        · rename_i hc
          simp only [Option.some.injEq, Prod.mk.injEq] at h
          obtain ⟨rfl, rfl, rfl⟩ := h
          exact ⟨hu, i, z, hi, hz, rfl, rfl, hc.2, Nat.pos_of_ne_zero hc.1⟩
        · cases h
      · cases h
    · cases h
  · cases h

def nilSl : Value → Bool
  | .slice none 0 0 => true
  | _ => false
theorem nilSl_eq {v : Value} (h : nilSl v = true) : v = .slice none 0 0 := by
  unfold nilSl at h
  split at h
  · rfl
  · cases h
/-- What a value reads as, as a row. -/
def rowOf (h : Hp) (sz : Nat) : AV → Option (List AV)
  | .sl s l => if s = sz then some l else none
  | .ow id s off len => if s = sz then (match h id with
    | some (.arr q l) => if q = sz ∧ off + len ≤ l.length then some ((l.drop off).take len) else none
    | some (.fz q l) => if q = sz ∧ off + len ≤ l.length then some ((l.drop off).take len) else none
    | _ => none) else none
  | .raw v => if nilSl v then some [] else none
  | _ => none

theorem RCs.cut {C : Cx} {l : List AV} {cs : List Value} {sz : Nat} (h : RCs C l cs) (hs : ∀ x ∈ l, x.size = sz) (o n : Nat) (hn : o + n ≤ l.length) : ∃ c1 c c2, cs = c1 ++ c ++ c2 ∧ c1.length = o * sz ∧ RCs C ((l.drop o).take n) c := by
  have e : l = l.take o ++ ((l.drop o).take n ++ (l.drop o).drop n) := by rw [List.take_append_drop, List.take_append_drop]
  rw [e] at h
  obtain ⟨c1, c', rfl, h1, h2⟩ := h.split
  obtain ⟨c, c2, rfl, h3, h4⟩ := h2.split
  refine ⟨c1, c, c2, by simp, ?_, h3⟩
  rw [h1.len, AV.sizes_all (sz := sz) (fun y hy => hs y (List.mem_of_mem_take hy)), List.length_take]
  congr 1; omega

theorem rowOf_ok (s : Sat nt C σ a) {sz : Nat} {x : AV} {v : Value} {l : List AV} (hx : RV C x v) (h : rowOf σ.heap sz x = some l) :
    ∃ A c, v = .slice A l.length c ∧ l.length ≤ c ∧ (∀ x ∈ l, x.size = sz) ∧ (l = [] ∨ ∃ b off cs, A = some ⟨b, off, none⟩ ∧ RCs C l cs ∧ Reads C.W b off cs) := by
  cases x with
  | sl s' l' =>
    simp only [rowOf] at h
    split at h
    · rename_i e; subst e; cases h
      cases hx with
      | sl0 => exact ⟨_, _, rfl, Nat.zero_le _, by simp, .inl rfl⟩
      | sl hc hs hF hr hl => exact ⟨_, _, rfl, hl, hs, .inr ⟨_, _, _, rfl, hc.up (bare_up C), hr⟩⟩
    · cases h
  | ow id s' off len =>
    simp only [rowOf] at h
    split at h
    · rename_i e; subst e
      have key : ∀ (l' : List AV) (cs : List Value) (b T : Nat), C.ι id = some (b, T) → RCs C l' cs → (∀ x ∈ l', x.size = s') → Reads C.W b 0 cs → off + len ≤ l'.length → l = (l'.drop off).take len →
          ∃ A c, v = .slice A l.length c ∧ l.length ≤ c ∧ (∀ x ∈ l, x.size = s') ∧ (l = [] ∨ ∃ b off cs, A = some ⟨b, off, none⟩ ∧ RCs C l cs ∧ Reads C.W b off cs) := by
        intro l' cs b T hι hc hs hr hle he
        have hlen : l.length = len := by rw [he, List.length_take, List.length_drop]; omega
        have hs2 : ∀ x ∈ l, x.size = s' := fun x hx => hs x (by rw [he] at hx; exact List.mem_of_mem_drop (List.mem_of_mem_take hx))
        cases hx with
        | ow hι2 hl =>
          obtain ⟨rfl, rfl⟩ := Prod.mk.inj (Option.some.inj (hι.symm.trans hι2))
          obtain ⟨c1, c, c2, rfl, e1, e2⟩ := hc.cut hs off len hle
          have h2 := hr.sub
          rw [Nat.zero_add, e1] at h2
          exact ⟨_, T - off, by rw [hlen], by omega, hs2, .inr ⟨b, off * s', c, rfl, he ▸ e2, h2⟩⟩
        | ow0 hι2 hl =>
          have : l = [] := List.eq_nil_of_length_eq_zero hlen
          exact ⟨_, 0, by rw [hlen], by omega, hs2, .inl this⟩
      cases hob : σ.heap id with
      | none => rw [hob] at h; cases h
      | some ob =>
        rw [hob] at h
        cases ob with
        | arr q l' =>
          simp only at h
          split at h
          · rename_i e
            obtain ⟨rfl, hle⟩ := e
            cases h
            obtain ⟨b, T, cs, t, fr, c1, c2, h1, h2, h3, h4, h5, h6, h7, h8⟩ := s.heap.at_ id _ hob
            have hr : Reads C.W b 0 c1 := by
              have := Reads.of_block h3
              rw [h5] at this
              have := Reads.sub (c1 := []) (c := c1) (c2 := c2) (by simpa using this)
              simpa using this
            exact key l' c1 b T h1 h6 h7 hr hle rfl
          · cases h
        | fz q l' =>
          simp only at h
          split at h
          · rename_i e
            obtain ⟨rfl, hle⟩ := e
            cases h
            obtain ⟨b, T, c1, h1, h2, h3, h4, h5, h6⟩ := s.heap.at_ id _ hob
            exact key l' c1 b T h1 (h4.up (bare_up C)) h5 h3 hle rfl
          · cases h
        | _ => cases h
    · cases h
  | raw w =>
    have := hx.raw_eq; subst this
    simp only [rowOf] at h
    split at h
    · rename_i e
      cases h
      exact ⟨none, 0, nilSl_eq e, Nat.le_refl _, by simp, .inl rfl⟩
    · cases h
  | _ => simp [rowOf] at h

theorem snd_len (s : Sat nt C σ a) {c : Call} {x : Operand} {t : TypeId} (ho : o.op = .call c) (hc : c = { callee := .builtin .len, args := #[x], argTypes := #[t] }) {e : TypeId} {sz bytes : Nat} (ht : rowI P t = some (e, sz, bytes)) {l : List AV} (h : rowOf σ.heap sz (evE σ.env x) = some l) :
    Res P nt C σ a o (.raw (.int .i64 l.length)) σ.heap := by
  obtain ⟨A, cp, hv, _⟩ := rowOf_ok s (s.ev x) h
  refine .mk s (v := .int .i64 l.length) ?_ (.raw _)
  subst hc
  simp [execOp, ho, resolve, invoke, builtin, Builtin.len_, underlying, program, Sem.run, (rowI_at ht).1, hv, goInt]
theorem snd_lenStr (s : Sat nt C σ a) {c : Call} {x : Operand} {t : TypeId} (ho : o.op = .call c) (hc : c = { callee := .builtin .len, args := #[x], argTypes := #[t] }) (ht : isStr P t = true) {b : ByteArray} (h : evE σ.env x = .raw (.string b)) :
    Res P nt C σ a o (.raw (.int .i64 b.size)) σ.heap := by
  refine .mk s (v := .int .i64 b.size) ?_ (.raw _)
  subst hc
  simp [execOp, ho, resolve, invoke, builtin, Builtin.len_, underlying, program, Sem.run, isStr_at ht, s.raw h, goInt]

/-- The address of an element. -/
def elemAt (h : Hp) (sz : Nat) (i : Nat) : AV → Option AV
  | .sl s l => if s = sz then (l[i]?).map .fp else none
  | .ow id s off len => if s = sz ∧ i < len then some (.ep id sz (off + i) 0) else none
  | _ => none
theorem snd_indexAddr (s : Sat nt C σ a) {t : TypeId} {x i : Operand} (ho : o.op = .indexAddr t x i) {e : TypeId} {sz bytes : Nat} (ht : rowI P t = some (e, sz, bytes)) {k : IntKind} {n : Int} (hi : evE σ.env i = .raw (.int k n)) (h0 : 0 ≤ n) {r : AV}
    (h : elemAt σ.heap sz n.toNat (evE σ.env x) = some r) : Res P nt C σ a o r σ.heap := by
  obtain ⟨hu, ti, z, hti, hz, hsz, hby, hzs, hpos⟩ := rowI_at ht
  have run : ∀ b off (len c : Nat), a.eval x = .slice (some ⟨b, off, none⟩) len c → n < len → (execOp a.eval o).run P C.W = .ok (.value (.pointer (some ⟨b, off + n.toNat * sz, none⟩))) C.W := by
    intro b off len c e hl
    simp [execOp, ho, Instr.indexAt, s.raw hi, asIntOf, underlying, program, Sem.run, hu, e, h0, hl, sizeOf, typeInfo, hti, hsz, add_at]
  have hx := s.ev x
  generalize evE σ.env x = y at h hx
  generalize hv : a.eval x = v at hx
  cases y with
  | sl s' l =>
    simp only [elemAt] at h
    split at h
    · rename_i e; subst e
      obtain ⟨q, hq, rfl⟩ := Option.map_eq_some_iff.1 h
      have hlt := (List.getElem?_eq_some_iff.1 hq).1
      cases hx with
      | sl0 => simp at hlt
      | sl hc hs hF hr hl =>
        obtain ⟨c1, c, c2, rfl, e1, e2, e3⟩ := hc.at hs hq
        have h2 := hr.sub
        rw [e1] at h2
        exact .mk s (run _ _ _ _ hv (by omega)) (.fp e3 hF h2)
    · cases h
  | ow id s' off len =>
    simp only [elemAt] at h
    split at h
    · rename_i e
      obtain ⟨rfl, hlt⟩ := e
      cases h
      cases hx with
      | ow hι hl =>
        have := run _ _ _ _ hv (by omega)
        rw [← Nat.add_mul] at this
        refine .mk s this ?_
        exact RV.ep (sz := s') (off := 0) (i := off + n.toNat) hι
      | ow0 hι hl => omega
    · cases h
  | _ => simp [elemAt] at h

/-- A cut of a row. -/
def cutOf (sz l h : Nat) : AV → Option AV
  | .sl s xs => if s = sz ∧ h ≤ xs.length then some (.sl sz ((xs.take h).drop l)) else none
  | .ow id s off len => if s = sz ∧ h ≤ len then some (.ow id sz (off + l) (h - l)) else none
  | .raw v => if nilSl v ∧ h = 0 then some (.sl sz []) else none
  | _ => none
def lenOfAV : AV → Nat
  | .sl _ xs => xs.length
  | .ow _ _ _ len => len
  | _ => 0
theorem snd_sliceRow (s : Sat nt C σ a) {t : TypeId} {x : Operand} {lo hi : Option Operand} (ho : o.op = .slice t x lo hi none) {e : TypeId} {sz bytes : Nat} (ht : rowI P t = some (e, sz, bytes)) {l h : Int}
    (hlo : Bnd (evE σ.env) lo 0 l) (hhi : Bnd (evE σ.env) hi (lenOfAV (evE σ.env x)) h) (h0 : 0 ≤ l) (h1 : l ≤ h) {r : AV} (hr : cutOf sz l.toNat h.toNat (evE σ.env x) = some r) : Res P nt C σ a o r σ.heap := by
  obtain ⟨hu, ti, z, hti, hz, hsz, hby, hzs, hpos⟩ := rowI_at ht
  have run : ∀ A (len c : Nat), a.eval x = .slice A len c → len = lenOfAV (evE σ.env x) → h ≤ len → len ≤ c →
      (execOp a.eval o).run P C.W = .ok (.value (.slice (if c = l.toNat then A else A.map (·.add (l.toNat * sz))) (h.toNat - l.toNat) (c - l.toNat))) C.W := by
    intro A len c e hl h2 h3
    have hb := bounds_run (P := P) (isS := true) s hlo (hl ▸ hhi) h0 h1 h2 h3 C.W
    simp [execOp, ho, Instr.sliceAt, Instr.slice, underlying, program, Sem.run, hu, e, hb, sizeOf, typeInfo, hti, hsz]
  have hx := s.ev x
  generalize evE σ.env x = y at hr hx run
  generalize hv : a.eval x = v at hx
  cases y with
  | sl s' xs =>
    simp only [cutOf] at hr
    split at hr
    · rename_i e
      obtain ⟨rfl, hle⟩ := e
      cases hr
      cases hx with
      | sl0 =>
        have hh : h = 0 := by simp at hle; omega
        have hl : l = 0 := by omega
        subst hh; subst hl
        have := run _ _ _ hv rfl (by simp) (Nat.zero_le _)
        refine .mk s this ?_
        simpa using RV.sl0
      | sl hc hs hF hrd hlc =>
        have := run _ _ _ hv rfl (by omega) hlc
        refine .mk s this ?_
        have e2 : (xs.take h.toNat).drop l.toNat = (xs.drop l.toNat).take (h.toNat - l.toNat) := by rw [List.drop_take]
        rw [e2]
        obtain ⟨c1, c, c2, rfl, f1, f2⟩ := hc.cut hs l.toNat (h.toNat - l.toNat) (by omega)
        have h3 := hrd.sub
        rw [f1] at h3
        have hlen : ((xs.drop l.toNat).take (h.toNat - l.toNat)).length = h.toNat - l.toNat := by rw [List.length_take, List.length_drop]; omega
        by_cases hz2 : h.toNat - l.toNat = 0
        · have : (xs.drop l.toNat).take (h.toNat - l.toNat) = [] := List.eq_nil_of_length_eq_zero (by rw [hlen]; exact hz2)
          rw [this, hz2]; exact .sl0
        · rw [if_neg (by omega)]
          simp only [Option.map_some, add_at]
          have hs2 : ∀ y ∈ (xs.drop l.toNat).take (h.toNat - l.toNat), y.size = s' := fun y hy => hs y (List.mem_of_mem_drop (List.mem_of_mem_take hy))
          generalize (xs.drop l.toNat).take (h.toNat - l.toNat) = q at *
          rw [← hlen]
          exact .sl f2 hs2 hF h3 (by omega)
    · cases hr
  | ow id s' off len =>
    simp only [cutOf] at hr
    split at hr
    · rename_i e
      obtain ⟨rfl, hle⟩ := e
      cases hr
      cases hx with
      | @ow _ _ _ _ _ b T hι hl =>
        have := run _ _ _ hv rfl (by omega) (by omega)
        refine .mk s this ?_
        by_cases hz2 : T - off = l.toNat
        · rw [if_pos hz2]
          have : h.toNat - l.toNat = 0 := by omega
          rw [this, show T - off - l.toNat = 0 by omega]
          exact .ow0 hι (by omega)
        · rw [if_neg hz2]
          simp only [Option.map_some, add_at]
          rw [← Nat.add_mul, Nat.sub_sub]
          exact .ow hι (by omega)
      | @ow0 _ _ _ _ A b T hι hl =>
        have hh : h = 0 := by omega
        have hl2 : l = 0 := by omega
        subst hh; subst hl2
        have := run _ _ _ hv rfl (by simp) (Nat.le_refl _)
        refine .mk s this ?_
        simpa using RV.ow0 (sz := s') (a := A) hι hl
    · cases hr
  | raw w =>
    have := hx.raw_eq; subst this
    simp only [cutOf] at hr
    split at hr
    · rename_i e
      obtain ⟨e1, e2⟩ := e
      have e1 := nilSl_eq e1
      subst e1
      cases hr
      have hh : h = 0 := by omega
      have hl2 : l = 0 := by omega
      subst hh; subst hl2
      have := run _ _ _ hv rfl (by simp) (Nat.le_refl _)
      refine .mk s this ?_
      simpa using RV.sl0
    · cases hr
  | _ => simp [cutOf] at hr
/-- No row at all, cut. -/
theorem snd_sliceNil (s : Sat nt C σ a) {t : TypeId} {x : Operand} {lo hi : Option Operand} (ho : o.op = .slice t x lo hi none) {e : TypeId} {sz bytes : Nat} (ht : rowI P t = some (e, sz, bytes)) {l h : Int}
    (hlo : Bnd (evE σ.env) lo 0 l) (hhi : Bnd (evE σ.env) hi (lenOfAV (evE σ.env x)) h) (h0 : 0 ≤ l) (h1 : l ≤ h) (hx0 : evE σ.env x = .raw (.slice none 0 0)) (hh : h.toNat = 0) : Res P nt C σ a o (.raw (.slice none 0 0)) σ.heap := by
  obtain ⟨hu, ti, z, hti, hz, hsz, hby, hzs, hpos⟩ := rowI_at ht
  have hx := s.ev x
  rw [hx0] at hx hhi
  have hv := hx.raw_eq
  obtain rfl : h = 0 := by omega
  obtain rfl : l = 0 := by omega
  have hb := bounds_run (P := P) (isS := true) (cap := 0) s hlo hhi (by omega) (by omega) (Int.le_refl _) (Nat.zero_le _) C.W
  have hb : (Instr.sliceBounds true 0 0 (lo.map a.eval) (hi.map a.eval) none).run P C.W = .ok (Int.toNat 0, Int.toNat 0, 0) C.W := hb
  refine .mk s (v := .slice none 0 0) ?_ (.raw _)
  simp [execOp, ho, Instr.sliceAt, Instr.slice, underlying, program, Sem.run, hu, hv, hb, sizeOf, typeInfo, hti]
end Go.Proofs.YtngeckkebejhiaaDoor.Asl
