/- Rows that are made, and grown. -/
import Derived.Test.YtngeckkebejhiaaDoorAG
namespace Go.Proofs.YtngeckkebejhiaaDoor.Asl
open Go Go.RowKit
set_option linter.unusedVariables false
set_option linter.unusedSimpArgs false
variable {P : Program} {nt : Nat} {C : Cx} {σ : St} {a : Act} {o : Oper}

theorem Reads.heap {W W' : World} (h : W'.heap = W.heap) {b o : Nat} {cs : List Value} (hr : Reads W b o cs) : Reads W' b o cs := by
  intro i v hv
  have := hr i v hv
  unfold World.cell? at this ⊢
  rw [h]; exact this
/-- The cells of a row that is read. -/
theorem rowOf_cells (s : Sat nt C σ a) {sz : Nat} {x : AV} {v : Value} {l : List AV} (hx : RV C x v) (h : rowOf σ.heap sz x = some l) :
    ∃ A c cs, v = .slice A l.length c ∧ l.length ≤ c ∧ (∀ x ∈ l, x.size = sz) ∧ RCs C l cs ∧ cs.length = l.length * sz ∧ ∀ W', W'.heap = C.W.heap → (Builtin.firstCells sz l.length (.slice A l.length c)).run P W' = .ok cs.toArray W' := by
  obtain ⟨A, c, hv, hc, hs, hl⟩ := rowOf_ok s hx h
  rcases hl with rfl | ⟨b, off, cs, rfl, h1, h2⟩
  · refine ⟨A, c, [], hv, hc, hs, .nil, by simp, fun W' _ => ?_⟩
    cases A <;> simp [Builtin.firstCells, loadCells, loadCellsFrom]
  · have hlen : cs.length = l.length * sz := by rw [h1.len, AV.sizes_all hs]
    refine ⟨_, c, cs, hv, hc, hs, h1, hlen, fun W' hW => ?_⟩
    have := run_loadCells (P := P) (W := W') (b := b) (o := off) cs 0 #[] (by simpa using h2.heap hW)
    rw [hlen] at this
    simp [Builtin.firstCells, loadCells, this]

theorem run_append_grows {t u ty e : TypeId} {i : TypeInfo} {z : Value} (ht : P.underlying t = some (.slice e)) {d : TypeDesc} (hu : P.underlying u = some d) (hui : ∀ k, d ≠ .int k) (hi : P.info? e = some i) (hz : i.zero = some z)
    (W : World) (base : Option Addr) (sLen sCap n : Nat) (x : Value) (olds news : List Value) (hn : ∀ w, (Builtin.lenOf x).run P w = .ok n w)
    (hold : ∀ W', W'.heap = W.heap → (Builtin.firstCells i.size sLen (.slice base sLen sCap)).run P W' = .ok olds.toArray W') (hnew : ∀ W', W'.heap = W.heap → (Builtin.firstCells i.size n x).run P W' = .ok news.toArray W')
    (hg : sCap < sLen + n) (hb : (sLen + n) * i.bytes ≤ 140737488355328) (h63 : sLen + n ≤ 140737488355328) :
    (Builtin.append_ #[t, u] ty #[.slice base sLen sCap, x]).run P W =
      .ok (.slice (some ⟨W.heap.size, 0, none⟩) (sLen + n) (grownCap W (sLen + n) sCap e)) (W.drew.alloc (.cells (olds.toArray ++ news.toArray ++ Builtin.zeroCells z.cells (grownCap W (sLen + n) sCap e - (sLen + n))) e)) := by
  have hn1 : ¬ (sLen + n ≤ sCap) := by omega
  have h63' : ¬ (9223372036854775807 < ((sLen : Int) + (n : Int))) := by omega
  have h48' : ¬ (281474976710656 < Builtin.nextslicecap (sLen + n) sCap * i.bytes) := by have := growslice_fits hg hb; omega
  have h1 := hold W.drew rfl
  have h2 := hnew W.drew rfl
  have hint : (match d with | .int _ => true | _ => false) = false := by
    cases d <;> first | rfl | exact absurd rfl (hui _)
  simp [Builtin.append_, run_underlying ht, run_underlying hu, sizeOf, typeInfo, zeroValue, hi, hz, hn, hint, hn1, h63', h48', Question.forced, h1, h2, newRow, grownCap]
  congr 2
  apply Array.ext'
  simp [List.append_assoc]
theorem run_append_room {t u ty e : TypeId} {i : TypeInfo} (ht : P.underlying t = some (.slice e)) {d : TypeDesc} (hu : P.underlying u = some d) (hui : ∀ k, d ≠ .int k) (hi : P.info? e = some i)
    (W W' : World) (b off : Nat) (sLen sCap n : Nat) (x : Value) (news : List Value) (hn : ∀ w, (Builtin.lenOf x).run P w = .ok n w)
    (hnew : (Builtin.firstCells i.size n x).run P W = .ok news.toArray W) (hg : sLen + n ≤ sCap) (hst : (storeCells ⟨b, off + sLen * i.size, none⟩ news).run P W = .ok () W') :
    (Builtin.append_ #[t, u] ty #[.slice (some ⟨b, off, none⟩) sLen sCap, x]).run P W = .ok (.slice (some ⟨b, off, none⟩) (sLen + n) sCap) W' := by
  have hint : (match d with | .int _ => true | _ => false) = false := by
    cases d <;> first | rfl | exact absurd rfl (hui _)
  simp [Builtin.append_, run_underlying ht, run_underlying hu, sizeOf, typeInfo, hi, hn, hint, hg, hnew, add_at, hst]

/-- A row that is new, and its block. -/
theorem newArr_sat (s : Sat nt C σ a) {d sz T : Nat} {l : List AV} {cs rest : List Value} {ty : TypeId} (hd : σ.heap d = none) (hc : RCs C l cs) (hs : ∀ x ∈ l, x.size = sz) (hT : (cs ++ rest).length = T * sz) (hsz : 0 < sz) {W : World} (hg : Grow C.W W) (hW : W.heap[C.W.heap.size]? = some (.cells (cs ++ rest).toArray ty (0, 0))) :
    Sat nt (newC C W d T) ⟨σ.env, setH σ.heap d (.arr sz l)⟩ a :=
  new_sat s hd hg ⟨C.W.heap.size, T, _, ty, (0, 0), cs, rest, by simp [newC], .inr rfl, hW, ⟨fun o _ h => by simp at h, Nat.le_refl _⟩, by simp, hc.up (newC_up s.heap hg hd), hs, by simpa using hT, hsz⟩

theorem newC_ow {C : Cx} {W : World} {d sz n T : Nat} (h : n ≤ T) : RV (newC C W d T) (.ow d sz 0 n) (.slice (some ⟨C.W.heap.size, 0, none⟩) n T) := by
  have := RV.ow (C := newC C W d T) (id := d) (sz := sz) (off := 0) (len := n) (b := C.W.heap.size) (T := T) (by simp [newC]) (by omega)
  rwa [Nat.zero_mul, Nat.sub_zero] at this

def placeC (C : Cx) (W' : World) (d b T : Nat) : Cx := { W := W', F := C.F, O := C.O, ι := fun i => if i = d then some (b, T) else C.ι i }
theorem place_sat (s : Sat nt C σ a) {id d b T T' : Nat} {ob ob' : Ob} {W' : World} (hob : σ.heap id = some ob) (hl : ob.live = true) (hd : σ.heap d = none) (hι : C.ι id = some (b, T)) (hO : C.O b) (hp : Put C.W W' b) (hl' : ob'.live = true) (hs' : HSat (placeC C W' d b T') d ob') :
    Up C (placeC C W' d b T') ∧ Ext C (placeC C W' d b T') ∧ Sat nt (placeC C W' d b T') ⟨σ.env, setH (setH σ.heap id .dead) d ob'⟩ a := by
  have hne : id ≠ d := fun e => by rw [e, hd] at hob; cases hob
  have u : Up C (placeC C W' d b T') := ⟨fun _ h => h, fun k hk => hp.other k (fun e => s.heap.apart b hO (e ▸ hk)), fun i p hp2 => by
    simp only [placeC]; rw [if_neg (fun e => by subst e; rw [s.heap.no i hd] at hp2; cases hp2)]; exact hp2⟩
  have old : ∀ i q, i ≠ d → i ≠ id → σ.heap i = some q → HSat (placeC C W' d b T') i q := fun i q e1 e2 hq =>
    (s.heap.at_ i q hq).up u fun b2 T2 h2 h3 h4 => ⟨h3, hp.other b2 fun e3 => by
      subst e3
      exact e2 (s.heap.inj i id _ _ _ q ob hq h4 hob hl h2 hι)⟩
  refine ⟨u, ⟨hp.os, hp.tape, hp.output, Nat.le_of_eq hp.size.symm, fun _ h => h, fun k _ hn => hp.other k (fun e => hn (e ▸ hO)), fun _ h => .inl h, fun _ h => .inl h, fun i p _ h => u.ι i p h⟩, s.defers, s.size, fun t => (s.env t).up u, ⟨fun i q hq => ?_, fun i hi => ?_, fun i j b' T' U' o q h1 h2 h3 h4 h5 h6 => ?_, s.heap.apart, fun k hk => ?_, fun k hk => ?_, s.heap.gl.up u⟩⟩
  · simp only [setH] at hq
    by_cases e : i = d
    · rw [if_pos e] at hq; cases hq; subst e; exact hs'
    · rw [if_neg e] at hq
      by_cases e2 : i = id
      · rw [if_pos e2] at hq; cases hq; subst e2
        exact ⟨b, T, by simp only [placeC]; rw [if_neg e]; exact hι⟩
      · rw [if_neg e2] at hq
        exact old i q e e2 hq
  · simp only [setH] at hi
    by_cases e : i = d
    · rw [if_pos e] at hi; cases hi
    · rw [if_neg e] at hi
      by_cases e2 : i = id
      · rw [if_pos e2] at hi; cases hi
      · rw [if_neg e2] at hi
        simp only [placeC]; rw [if_neg e]; exact s.heap.no i hi
  · simp only [setH] at h1 h3
    simp only [placeC] at h5 h6
    have g : ∀ k (q : Ob), k ≠ d → (if k = d then some ob' else if k = id then some Ob.dead else σ.heap k) = some q → q.live = true → k ≠ id ∧ σ.heap k = some q := by
      intro k q e hk hq
      rw [if_neg e] at hk
      by_cases e2 : k = id
      · rw [if_pos e2] at hk; cases hk; simp [Ob.live] at hq
      · rw [if_neg e2] at hk; exact ⟨e2, hk⟩
    by_cases e : i = d <;> by_cases e2 : j = d
    · rw [e, e2]
    · obtain ⟨g1, g2⟩ := g j q e2 h3 h4
      rw [if_pos e] at h5; rw [if_neg e2] at h6
      cases h5
      exact absurd (s.heap.inj j id _ _ _ q ob g2 h4 hob hl h6 hι) g1
    · obtain ⟨g1, g2⟩ := g i o e h1 h2
      rw [if_neg e] at h5; rw [if_pos e2] at h6
      cases h6
      exact absurd (s.heap.inj i id _ _ _ o ob g2 h2 hob hl h5 hι) g1
    · obtain ⟨_, g2⟩ := g i o e h1 h2
      obtain ⟨_, g3⟩ := g j q e2 h3 h4
      rw [if_neg e] at h5; rw [if_neg e2] at h6
      exact s.heap.inj i j b' T' U' o q g2 h2 g3 h4 h5 h6
  · show k < W'.heap.size; rw [hp.size]; exact s.heap.lt k hk
  · show k < W'.heap.size; rw [hp.size]; exact s.heap.olt k hk

/-- What is appended: a row, or a text's bytes. -/
def strCellsAV (b : ByteArray) : List AV := b.data.toList.map fun c => .raw (.int .u8 c.toNat)
def isSl (P : Program) (u : TypeId) : Bool := match P.underlying u with | some (.slice _) => true | _ => false
theorem isSl_at {P : Program} {u : TypeId} (h : isSl P u = true) : ∃ e, P.underlying u = some (.slice e) := by
  unfold isSl at h
  split at h
  · exact ⟨_, by assumption⟩
  · cases h
def srcOf (P : Program) (h : Hp) (sz : Nat) (u : TypeId) : AV → Option (List AV)
  | .raw (.string b) => if isStr P u = true ∧ sz = 1 then some (strCellsAV b) else none
  | x => if isStr P u = false ∧ isSl P u = true then rowOf h sz x else none
theorem strCells_ok (b : ByteArray) : RCs C (strCellsAV b) (b.data.toList.map fun c => Value.int .u8 c.toNat) := by
  unfold strCellsAV
  induction b.data.toList with
  | nil => exact .nil
  | cons c l ih => exact .cons (c := [_]) (.one (.raw _) rfl) ih
theorem srcOf_ok (s : Sat nt C σ a) {sz : Nat} {u : TypeId} {x : AV} {v : Value} {ys : List AV} (hx : RV C x v) (h : srcOf P σ.heap sz u x = some ys) :
    (∃ d, P.underlying u = some d ∧ ∀ k, d ≠ .int k) ∧ ∃ cs, RCs C ys cs ∧ (∀ y ∈ ys, y.size = sz) ∧ cs.length = ys.length * sz ∧ (∀ w, (Builtin.lenOf v).run P w = .ok ys.length w) ∧ ∀ W', W'.heap = C.W.heap → (Builtin.firstCells sz ys.length v).run P W' = .ok cs.toArray W' := by
  have rest : ∀ (hh : (if isStr P u = false ∧ isSl P u = true then rowOf σ.heap sz x else none) = some ys),
      (∃ d, P.underlying u = some d ∧ ∀ k, d ≠ .int k) ∧ ∃ cs, RCs C ys cs ∧ (∀ y ∈ ys, y.size = sz) ∧ cs.length = ys.length * sz ∧ (∀ w, (Builtin.lenOf v).run P w = .ok ys.length w) ∧ ∀ W', W'.heap = C.W.heap → (Builtin.firstCells sz ys.length v).run P W' = .ok cs.toArray W' := by
    intro hh
    split at hh
    · rename_i hu
      obtain ⟨A, c, cs, rfl, hc, hs, h1, h2, h3⟩ := rowOf_cells (P := P) s hx hh
      refine ⟨?_, cs, h1, hs, h2, fun w => by simp [Builtin.lenOf], h3⟩
      obtain ⟨e, he⟩ := isSl_at hu.2
      exact ⟨_, he, fun k h => by cases h⟩
    · cases hh
  cases x with
  | raw w =>
    cases w with
    | string b =>
      have := hx.raw_eq; subst this
      simp only [srcOf] at h
      split at h
      · rename_i hc
        obtain ⟨hu, rfl⟩ := hc
        cases h
        have hl : (strCellsAV b).length = b.size := by simp only [strCellsAV, List.length_map, Array.length_toList]; rfl
        refine ⟨⟨_, isStr_at hu, fun k h => by cases h⟩, _, strCells_ok b, ?_, ?_, fun w => ?_, fun W' _ => ?_⟩
        · intro y hy
          obtain ⟨c, _, rfl⟩ := List.mem_map.1 hy
          rfl
        · simp [strCellsAV]
        · simp [Builtin.lenOf, hl]
        · rw [hl]
          have : b.extract 0 b.size = b := by simp
          simp [Builtin.firstCells, this]
          apply Array.toList_inj.1
          simp
      · cases h
    | _ => exact rest h
  | _ => exact rest h

theorem zlen {z : Value} {sz : Nat} (h : z.cells.size = sz) (n : Nat) : (Builtin.zeroCells z.cells n).toList.length = n * sz := by
  rw [Array.length_toList, size_zeroCells, h]

theorem snd_append (s : Sat nt C σ a) {c : Call} {x y : Operand} {t u : TypeId} (ho : o.op = .call c) (hc : c = { callee := .builtin .append, args := #[x, y], argTypes := #[t, u] }) {e : TypeId} {sz bytes : Nat} (ht : rowI P t = some (e, sz, bytes)) {ys : List AV} (hy : srcOf P σ.heap sz u (evE σ.env y) = some ys)
    {d : Nat} (hd : σ.heap d = none) {id len : Nat} {l : List AV} (hx : evE σ.env x = .ow id sz 0 len) (hob : σ.heap id = some (.arr sz l)) (hlen : len ≤ l.length) (hb1 : (len + ys.length) * bytes ≤ 140737488355328) (hb2 : len + ys.length ≤ 140737488355328) :
    Res P nt C σ a o (.ow d sz 0 (len + ys.length)) (setH (setH σ.heap id .dead) d (.arr sz (l.take len ++ ys))) := by
  obtain ⟨hu, ti, z, hti, hz, hsz, hby, hzs, hpos⟩ := rowI_at ht
  obtain ⟨⟨du, hdu, hdi⟩, cs, h1, h2, h3, h4, h5⟩ := srcOf_ok s (s.ev y) hy
  have hxv := s.ev x
  rw [hx] at hxv
  have hrow : rowOf σ.heap sz (.ow id sz 0 len) = some ((l.drop 0).take len) := by
    simp [rowOf, hob, hlen]
  obtain ⟨A, cp, olds, hv, hcp, hs0, ho1, ho2, ho3⟩ := rowOf_cells (P := P) s hxv hrow
  have hll : ((l.drop 0).take len).length = len := by simp; omega
  rw [hll] at hv hcp ho2 ho3
  rw [List.drop_zero] at ho1 hs0
  subst hsz
  have hnewrow : RCs C (l.take len ++ ys) (olds ++ cs) := ho1.append h1
  have hnews : ∀ q ∈ l.take len ++ ys, q.size = ti.size := fun q hq => (List.mem_append.1 hq).elim (hs0 q) (h2 q)
  have hcl : (olds ++ cs).length = (len + ys.length) * ti.size := by rw [List.length_append, ho2, h3, Nat.add_mul]
  have run : ∀ v W', (Builtin.append_ #[t, u] o.type #[.slice A len cp, a.eval y]).run P C.W = .ok v W' → (execOp a.eval o).run P C.W = .ok (.value v) W' := by
    intro v W' h
    subst hc
    simp [execOp, ho, resolve, invoke, builtin, hv, h]
  by_cases hroom : len + ys.length ≤ cp
  · -- in place
    obtain ⟨b, T, ccs, ty, fr, c1, c2, i1, i2, i3, i4, i5, i6, i7, i8, i9⟩ := s.heap.at_ id _ hob
    have hA : (A = some ⟨b, 0, none⟩ ∧ cp = T) ∨ (len = 0 ∧ cp = 0) := by
      generalize hvv : a.eval x = v at hxv
      rw [hvv] at hv
      subst hv
      cases hxv with
      | ow hι hl =>
        obtain ⟨rfl, rfl⟩ := Prod.mk.inj (Option.some.inj (i1.symm.trans hι))
        left; simp
      | ow0 hι hl => right; exact ⟨rfl, rfl⟩
    rcases hA with ⟨rfl, rfl⟩ | ⟨rfl, rfl⟩
    · -- the block's cells
      obtain ⟨k1, k, rfl, m1, m2⟩ : ∃ k1 k, c1 = k1 ++ k ∧ k1.length = len * ti.size ∧ RCs C (l.take len) k1 := by
        have e : l = l.take len ++ l.drop len := (List.take_append_drop _ _).symm
        rw [e] at i6
        obtain ⟨k1, k, rfl, n1, n2⟩ := i6.split
        refine ⟨k1, k, rfl, ?_, n1⟩
        rw [n1.len, AV.sizes_all (sz := ti.size) (fun q hq => i7 q (List.mem_of_mem_take hq)), List.length_take]; congr 1; omega
      have hlen2 : k1.length + cs.length ≤ (k1 ++ k ++ c2).length := by
        have : (k1 ++ k ++ c2).length = cp * ti.size := by rw [← i5, Array.length_toList]; exact i8
        rw [this, m1, h3, ← Nat.add_mul]
        exact Nat.mul_le_mul_right _ hroom
      obtain ⟨r1, r2, hr1, hr2⟩ : ∃ r1 r2, k ++ c2 = r1 ++ r2 ∧ r1.length = cs.length := ⟨(k ++ c2).take cs.length, (k ++ c2).drop cs.length, (List.take_append_drop _ _).symm, by
        rw [List.length_take]; simp at hlen2 ⊢; omega⟩
      have hcs : ccs = (k1 ++ r1 ++ r2).toArray := by
        apply Array.toList_inj.1
        rw [i5, List.append_assoc, hr1]; simp
      subst hcs
      obtain ⟨W', hst, hp, hW⟩ := run_storeCells (P := P) (o := k1.length) cs 0 C.W k1 r1 r2 i3 (by simpa using i4) rfl hr2 h1.cell
      have hrun := run_append_room hu hdu hdi hti C.W W' b 0 len cp ys.length (a.eval y) cs h4 (h5 C.W rfl) hroom (ty := o.type) (by rw [Nat.zero_add, ← m1]; exact hst)
      have hu0 : Up C (placeC C W' d b cp) := ⟨fun _ h => h, fun k hk => hp.other k (fun e => s.heap.apart b i2 (e ▸ hk)), fun i p hp2 => by
        simp only [placeC]; rw [if_neg (fun e => by subst e; rw [s.heap.no i hd] at hp2; cases hp2)]; exact hp2⟩
      have hz1 : NoFz (k1 ++ cs ++ r2).toArray.size fr := by
        have : (k1 ++ cs ++ r2).toArray.size = (k1 ++ r1 ++ r2).toArray.size := by
          simp only [List.size_toArray, List.length_append]; omega
        rw [this]; exact i4
      have hz2 : (k1 ++ cs ++ r2).toArray.size = cp * ti.size := by
        rw [← i8]; simp only [List.size_toArray, List.length_append]; omega
      have hS : HSat (placeC C W' d b cp) d (.arr ti.size (l.take len ++ ys)) := ⟨b, cp, _, ty, fr, k1 ++ cs, r2, by simp [placeC], i2, hW, hz1, by simp, (m2.append h1).up hu0, hnews, hz2, i9⟩
      obtain ⟨u, ex, sat⟩ := place_sat (d := d) (T' := cp) (ob' := .arr ti.size (l.take len ++ ys)) s hob rfl hd i1 i2 hp rfl hS
      exact ⟨_, _, placeC C W' d b cp, run _ _ hrun, .inl rfl, ex, sat, by
          have := RV.ow (C := placeC C W' d b cp) (id := d) (sz := ti.size) (off := 0) (len := len + ys.length) (b := b) (T := cp) (by simp [placeC]) (by omega)
          simpa using this⟩
    · -- no cells at all
      have hy0 : ys.length = 0 := by omega
      have hys : ys = [] := List.eq_nil_of_length_eq_zero hy0
      subst hys
      have hrun : (Builtin.append_ #[t, u] o.type #[.slice A 0 0, a.eval y]).run P C.W = .ok (.slice A 0 0) C.W := by
        have e1 := h5 C.W rfl
        have e2 : cs = [] := List.eq_nil_of_length_eq_zero (by rw [h3]; simp)
        subst e2
        have hint : (match du with | .int _ => true | _ => false) = false := by
          cases du <;> first | rfl | exact absurd rfl (hdi _)
        cases A <;> simp [Builtin.append_, run_underlying hu, run_underlying hdu, sizeOf, typeInfo, hti, h4, hint] <;> (try simp at e1) <;> simp [e1, storeCells]
      have hsat := place_sat (d := d) (T' := T) (ob' := .arr ti.size []) (W' := C.W) s hob rfl hd i1 i2 (.refl _ _) rfl ⟨b, T, ccs, ty, fr, [], c1 ++ c2, by simp [placeC], i2, i3, i4, by simpa using i5, .nil, by simp, i8, i9⟩
      obtain ⟨u, ex, sat⟩ := hsat
      have hT0 : ∃ ad, A = some ad ∧ T = 0 := by
        generalize hvv : a.eval x = v at hxv
        rw [hvv] at hv
        subst hv
        generalize hq : Value.slice A 0 0 = q at hxv
        cases hxv with
        | @ow _ _ _ _ _ b' T' hι hl =>
          have e := Prod.mk.inj (Option.some.inj (i1.symm.trans hι))
          simp only [Value.slice.injEq] at hq
          exact ⟨_, hq.1, by omega⟩
        | @ow0 _ _ _ _ ad b' T' hι hl =>
          have e := Prod.mk.inj (Option.some.inj (i1.symm.trans hι))
          simp only [Value.slice.injEq] at hq
          exact ⟨_, hq.1, by omega⟩
      obtain ⟨ad, rfl, rfl⟩ := hT0
      exact ⟨_, _, placeC C C.W d b 0, run _ _ hrun, .inl rfl, ex, by simpa using sat, RV.ow0 (b := b) (by simp [placeC]) rfl⟩
  · -- a new block
    have hrun := run_append_grows hu hdu hdi hti hz C.W A len cp ys.length (a.eval y) olds cs h4 ho3 h5 (ty := o.type) (by omega) (by rw [hby]; exact hb1) hb2
    have hge := grownCap_ge C.W (len + ys.length) cp e
    have hg : Grow C.W (C.W.drew.alloc (.cells (olds.toArray ++ cs.toArray ++ Builtin.zeroCells z.cells (grownCap C.W (len + ys.length) cp e - (len + ys.length))) e)) := ⟨rfl, rfl, rfl, Array.size_push _, fun k hk => Below.heap_alloc C.W.drew _ k hk⟩
    have hW : (C.W.drew.alloc (.cells (olds.toArray ++ cs.toArray ++ Builtin.zeroCells z.cells (grownCap C.W (len + ys.length) cp e - (len + ys.length))) e)).heap[C.W.heap.size]? = some (.cells ((olds ++ cs) ++ (Builtin.zeroCells z.cells (grownCap C.W (len + ys.length) cp e - (len + ys.length))).toList).toArray e (0, 0)) := by
      show (C.W.heap.push _)[C.W.heap.size]? = _
      simp
    have hT : ((olds ++ cs) ++ (Builtin.zeroCells z.cells (grownCap C.W (len + ys.length) cp e - (len + ys.length))).toList).length = grownCap C.W (len + ys.length) cp e * ti.size := by
      rw [List.length_append, hcl, zlen hzs, ← Nat.add_mul]; congr 1; omega
    have hsat := newArr_sat (T := grownCap C.W (len + ys.length) cp e) s hd hnewrow hnews hT hpos hg hW
    -- the old row is dead
    have e1 : ∀ i, setH (setH σ.heap id .dead) d (.arr ti.size (l.take len ++ ys)) i = if i = id then some .dead else setH σ.heap d (.arr ti.size (l.take len ++ ys)) i := by
      intro i
      have hne : id ≠ d := fun e => by rw [e, hd] at hob; cases hob
      simp only [setH]
      by_cases e : i = d
      · rw [if_pos e, if_neg (fun h => hne (h.symm.trans e)), if_pos e]
      · rw [if_neg e, if_neg e]
    refine ⟨_, _, newC C _ d (grownCap C.W (len + ys.length) cp e), run _ _ hrun, .inl rfl, newC_ext s.heap hg hd _, ?_, ?_⟩
    · refine ⟨hsat.defers, hsat.size, hsat.env, ⟨fun i q hq => ?_, fun i hi => ?_, fun i j b' T' U' o q g1 g2 g3 g4 g5 g6 => ?_, hsat.heap.apart, hsat.heap.lt, hsat.heap.olt, hsat.heap.gl⟩⟩
      · have hq : setH (setH σ.heap id .dead) d (.arr ti.size (l.take len ++ ys)) i = some q := hq
        rw [e1] at hq
        split at hq
        · rename_i e; cases hq; subst e
          have hne : i ≠ d := fun e => by rw [e, hd] at hob; cases hob
          have := hsat.heap.at_ i (.arr ti.size l) (by simp only [setH]; rw [if_neg hne]; exact hob)
          obtain ⟨b, T, _, _, _, _, _, x1, _⟩ := this
          exact ⟨b, T, x1⟩
        · exact hsat.heap.at_ i q hq
      · have hi : setH (setH σ.heap id .dead) d (.arr ti.size (l.take len ++ ys)) i = none := hi
        rw [e1] at hi
        split at hi
        · cases hi
        · exact hsat.heap.no i hi
      · have g1 : setH (setH σ.heap id .dead) d (.arr ti.size (l.take len ++ ys)) i = some o := g1
        have g3 : setH (setH σ.heap id .dead) d (.arr ti.size (l.take len ++ ys)) j = some q := g3
        rw [e1] at g1 g3
        split at g1
        · cases g1; simp [Ob.live] at g2
        · split at g3
          · cases g3; simp [Ob.live] at g4
          · exact hsat.heap.inj i j b' T' U' o q g1 g2 g3 g4 g5 g6
    · exact newC_ow hge

theorem snd_appendNil (s : Sat nt C σ a) {c : Call} {x y : Operand} {t u : TypeId} (ho : o.op = .call c) (hc : c = { callee := .builtin .append, args := #[x, y], argTypes := #[t, u] }) {e : TypeId} {sz bytes : Nat} (ht : rowI P t = some (e, sz, bytes)) {ys : List AV} (hy : srcOf P σ.heap sz u (evE σ.env y) = some ys)
    {d : Nat} (hd : σ.heap d = none) {v : Value} (hx : evE σ.env x = .raw v) (hv : nilSl v = true) (hne : ys ≠ []) (hb1 : ys.length * bytes ≤ 140737488355328) (hb2 : ys.length ≤ 140737488355328) :
    Res P nt C σ a o (.ow d sz 0 ys.length) (setH σ.heap d (.arr sz ys)) := by
  obtain ⟨hu, ti, z, hti, hz, hsz, hby, hzs, hpos⟩ := rowI_at ht
  obtain ⟨⟨du, hdu, hdi⟩, cs, h1, h2, h3, h4, h5⟩ := srcOf_ok s (s.ev y) hy
  have hv := nilSl_eq hv
  subst hv
  subst hsz
  have hpos2 : 0 < ys.length := List.length_pos_iff.2 hne
  have hrun := run_append_grows hu hdu hdi hti hz C.W none 0 0 ys.length (a.eval y) [] cs h4 (fun W' _ => by simp [Builtin.firstCells]) h5 (ty := o.type) (by omega) (by rw [hby, Nat.zero_add]; exact hb1) (by omega)
  rw [Nat.zero_add] at hrun
  have hge := grownCap_ge C.W ys.length 0 e
  have hg : Grow C.W (C.W.drew.alloc (.cells (([] : List Value).toArray ++ cs.toArray ++ Builtin.zeroCells z.cells (grownCap C.W ys.length 0 e - ys.length)) e)) := ⟨rfl, rfl, rfl, Array.size_push _, fun k hk => Below.heap_alloc C.W.drew _ k hk⟩
  have hW : (C.W.drew.alloc (.cells (([] : List Value).toArray ++ cs.toArray ++ Builtin.zeroCells z.cells (grownCap C.W ys.length 0 e - ys.length)) e)).heap[C.W.heap.size]? = some (.cells (cs ++ (Builtin.zeroCells z.cells (grownCap C.W ys.length 0 e - ys.length)).toList).toArray e (0, 0)) := by
    show (C.W.heap.push _)[C.W.heap.size]? = _
    simp
  have hT : (cs ++ (Builtin.zeroCells z.cells (grownCap C.W ys.length 0 e - ys.length)).toList).length = grownCap C.W ys.length 0 e * ti.size := by
    rw [List.length_append, h3, zlen hzs, ← Nat.add_mul]; congr 1; omega
  have hsat := newArr_sat (T := grownCap C.W ys.length 0 e) s hd h1 h2 hT hpos hg hW
  refine ⟨_, .slice (some ⟨C.W.heap.size, 0, none⟩) ys.length (grownCap C.W ys.length 0 e), newC C _ d (grownCap C.W ys.length 0 e), ?_, .inl rfl, newC_ext s.heap hg hd _, hsat, ?_⟩
  · subst hc
    simp only [newC]
    simp [execOp, ho, resolve, invoke, builtin, s.raw hx]
    simp at hrun
    rw [hrun]; rfl
  · exact newC_ow hge
end Go.Proofs.YtngeckkebejhiaaDoor.Asl
