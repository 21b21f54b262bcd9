/- copy: rows within rows. -/
import Derived.Test.YtngeckkebejhiaaDoorAH
namespace Go.Proofs.YtngeckkebejhiaaDoor.Asl
open Go Go.RowKit
set_option linter.unusedVariables false
set_option linter.unusedSimpArgs false
variable {P : Program} {nt : Nat} {C : Cx} {σ : St} {a : Act} {o : Oper}
theorem firstN (s : Sat nt C σ a) {sz n : Nat} {x : AV} {v : Value} {l : List AV} (hx : RV C x v) (h : rowOf σ.heap sz x = some l) (hn : n ≤ l.length) :
    ∃ cs, RCs C (l.take n) cs ∧ (∀ y ∈ l.take n, y.size = sz) ∧ cs.length = n * sz ∧ ∀ W', W'.heap = C.W.heap → (Builtin.firstCells sz n v).run P W' = .ok cs.toArray W' := by
  by_cases e : n = l.length
  · obtain ⟨A, c, cs, rfl, hc, hs, h1, h2, h3⟩ := rowOf_cells (P := P) s hx h
    subst e
    rw [List.take_length]
    exact ⟨cs, h1, hs, h2, h3⟩
  have hlt : n < l.length := by omega
  cases x with
  | sl s' m =>
    simp only [rowOf] at h
    split at h
    · rename_i e'; subst e'; cases h
      cases hx with
      | sl0 => simp at hlt
      | @sl _ _ _ cs b o' c hr hs hF hrd hc =>
        have hr' := hr
        rw [← List.take_append_drop n l] at hr'
        obtain ⟨c1, c2, rfl, h1, h2⟩ := hr'.split
        have hrd' : Reads C.W b o' c1 := by
          have := Reads.sub (c1 := []) (c := c1) (c2 := c2) (by simpa using hrd)
          simpa using this
        have hx' : RV C (.sl s' (l.take n)) (.slice (some ⟨b, o', none⟩) (l.take n).length c) := .sl h1 (fun y hy => hs y (List.mem_of_mem_take hy)) hF hrd' (by rw [List.length_take]; omega)
        obtain ⟨A, c', cs, e1, hc', hs', k1, k2, k3⟩ := rowOf_cells (P := P) (sz := s') (l := l.take n) s hx' (by simp [rowOf])
        rw [List.length_take, Nat.min_eq_left (by omega)] at k2 k3
        refine ⟨cs, k1, hs', k2, fun W' hW => ?_⟩
        have k4 := k3 W' hW
        simp only [Value.slice.injEq] at e1
        obtain ⟨rfl, _, _⟩ := e1
        exact k4
    · cases h
  | ow id s' off len =>
    have h0 := h
    simp only [rowOf] at h
    split at h
    · rename_i e'; subst e'
      have key : ∀ q m, σ.heap id = some q → (q = .arr s' m ∨ q = .fz s' m) → off + len ≤ m.length → l = (m.drop off).take len → ∃ cs, RCs C (l.take n) cs ∧ (∀ y ∈ l.take n, y.size = s') ∧ cs.length = n * s' ∧ ∀ W', W'.heap = C.W.heap → (Builtin.firstCells s' n v).run P W' = .ok cs.toArray W' := by
        intro q m hq hqq hlen hl
        have hll : len = l.length := by rw [hl]; simp; omega
        have hrow : rowOf σ.heap s' (.ow id s' off n) = some (l.take n) := by
          rcases hqq with rfl | rfl
          · simp only [rowOf, if_true, hq]; rw [if_pos ⟨trivial, by omega⟩, hl, List.take_take, Nat.min_eq_left (by omega)]
          · simp only [rowOf, if_true, hq]; rw [if_pos ⟨trivial, by omega⟩, hl, List.take_take, Nat.min_eq_left (by omega)]
        cases hx with
        | @ow _ _ _ _ _ b T hι hT =>
          obtain ⟨A, c', cs, e1, hc', hs', k1, k2, k3⟩ := rowOf_cells (P := P) s (RV.ow (C := C) (id := id) (sz := s') (off := off) (len := n) hι (by omega)) hrow
          rw [List.length_take, Nat.min_eq_left (by omega)] at k2 k3
          refine ⟨cs, k1, hs', k2, fun W' hW => ?_⟩
          have k4 := k3 W' hW
          simp only [Value.slice.injEq] at e1
          obtain ⟨rfl, _, _⟩ := e1
          exact k4
        | ow0 hι hT => omega
      cases hq : σ.heap id with
      | none => rw [hq] at h; cases h
      | some q =>
        rw [hq] at h
        cases q with
        | arr q' m =>
          simp only at h
          split at h
          · rename_i hc; obtain ⟨rfl, hlen⟩ := hc; cases h; exact key _ m hq (.inl rfl) hlen rfl
          · cases h
        | fz q' m =>
          simp only at h
          split at h
          · rename_i hc; obtain ⟨rfl, hlen⟩ := hc; cases h; exact key _ m hq (.inr rfl) hlen rfl
          · cases h
        | _ => cases h
    · cases h
  | raw w => simp only [rowOf] at h; split at h <;> cases h; simp at hlt
  | _ => simp [rowOf] at h
theorem snd_copy (s : Sat nt C σ a) {c : Call} {x y : Operand} {t u : TypeId} (ho : o.op = .call c) (hc : c = { callee := .builtin .copy, args := #[x, y], argTypes := #[t, u] }) {e : TypeId} {sz bytes : Nat} (ht : rowI P t = some (e, sz, bytes)) {ys : List AV} (hy : rowOf σ.heap sz (evE σ.env y) = some ys)
    {id off len : Nat} {l : List AV} (hx : evE σ.env x = .ow id sz off len) (hob : σ.heap id = some (.arr sz l)) (hlen : off + len ≤ l.length) {m : Nat} (hm : m = min ys.length len) :
    Res P nt C σ a o (.raw (.int .i64 m)) (setH σ.heap id (.arr sz (l.take off ++ ys.take m ++ l.drop (off + m)))) := by
  obtain ⟨hu, ti, z, hti, hz, hsz, hby, hzs, hpos⟩ := rowI_at ht
  obtain ⟨cs, h1, h2, h3, h5⟩ := firstN (P := P) s (s.ev y) hy (n := m) (by omega)
  obtain ⟨A', cp', _, hyv, _⟩ := rowOf_cells (P := P) s (s.ev y) hy
  have hxv := s.ev x
  rw [hx] at hxv
  subst hsz
  have hlenY : ∀ w, (Builtin.lenOf (a.eval y)).run P w = .ok ys.length w := fun w => by rw [hyv]; simp [Builtin.lenOf]
  have hmin : Nat.min ys.length len = m := hm.symm
  by_cases hm0 : m = 0
  · have e1 : l.take off ++ ys.take m ++ l.drop (off + m) = l := by rw [hm0]; simp
    have e2 : setH σ.heap id (.arr ti.size l) = σ.heap := by
      funext j
      simp only [setH]
      split
      · rename_i e; rw [e, hob]
      · rfl
    have hcs0 : cs = [] := List.eq_nil_of_length_eq_zero (by rw [h3, hm0]; simp)
    subst hcs0
    rw [e1, e2]
    generalize hxe : a.eval x = vx at hxv
    subst hc
    rw [hm0] at hmin h5 ⊢
    have h6 := h5 C.W rfl
    cases hxv with
    | ow hι hT =>
      refine .mk s (v := .int .i64 0) ?_ (.raw _)
      simp [execOp, ho, resolve, invoke, builtin, hxe, Builtin.copy_, run_underlying hu, sizeOf, typeInfo, hti, hlenY, hmin, h6, storeCells, goInt]
    | ow0 hι hT =>
      refine .mk s (v := .int .i64 0) ?_ (.raw _)
      simp [execOp, ho, resolve, invoke, builtin, hxe, Builtin.copy_, run_underlying hu, sizeOf, typeInfo, hti, hlenY, hmin, h6, storeCells, goInt]
  obtain ⟨b, T, ccs, ty, fr, c1, c2, i1, i2, i3, i4, i5, i6, i7, i8, i9⟩ := s.heap.at_ id _ hob
  have hml : m ≤ len := by omega
  have el : l = l.take off ++ ((l.drop off).take m ++ l.drop (off + m)) := by
    rw [← List.drop_drop, List.take_append_drop, List.take_append_drop]
  have i6' := i6
  rw [el] at i6'
  obtain ⟨k1, k', rfl, n1, n2⟩ := i6'.split
  obtain ⟨k, k2, rfl, n3, n4⟩ := n2.split
  have lk1 : k1.length = off * ti.size := by
    rw [n1.len, AV.sizes_all (sz := ti.size) (fun q hq => i7 q (List.mem_of_mem_take hq)), List.length_take]; congr 1; omega
  have lk : k.length = cs.length := by
    rw [n3.len, AV.sizes_all (sz := ti.size) (fun q hq => i7 q (List.mem_of_mem_drop (List.mem_of_mem_take hq))), List.length_take, List.length_drop, h3]; congr 1; omega
  have hcs : ccs = (k1 ++ k ++ (k2 ++ c2)).toArray := by
    apply Array.toList_inj.1
    rw [i5]; simp
  subst hcs
  obtain ⟨W', hst, hp, hW⟩ := run_storeCells (P := P) (o := k1.length) cs 0 C.W k1 k (k2 ++ c2) i3 (by simpa using i4) rfl lk h1.cell
  have u0 := put_up s.heap i2 hp
  have hsat := upd_sat (ob' := .arr ti.size (l.take off ++ ys.take m ++ l.drop (off + m))) s hob rfl i1 i2 hp rfl ⟨b, T, _, ty, fr, k1 ++ cs ++ k2, c2, i1, i2, hW, by
      have : (k1 ++ cs ++ (k2 ++ c2)).toArray.size = (k1 ++ k ++ (k2 ++ c2)).toArray.size := by simp only [List.size_toArray, List.length_append]; omega
      rw [this]; exact i4, by simp, ((n1.append h1).append n4).up u0, fun q hq => by
      rcases List.mem_append.1 hq with hq | hq
      · rcases List.mem_append.1 hq with hq | hq
        · exact i7 q (List.mem_of_mem_take hq)
        · exact h2 q hq
      · exact i7 q (List.mem_of_mem_drop hq), by
      rw [← i8]; simp only [List.size_toArray, List.length_append]; omega, i9⟩
  refine ⟨.value (.int .i64 m), .int .i64 m, { C with W := W' }, ?_, .inl rfl, put_ext i2 hp, hsat, .raw _⟩
  generalize hxe : a.eval x = vx at hxv
  cases hxv with
  | ow hι hT =>
    obtain ⟨rfl, rfl⟩ := Prod.mk.inj (Option.some.inj (i1.symm.trans hι))
    rw [lk1] at hst
    subst hc
    simp [execOp, ho, resolve, invoke, builtin, hxe, Builtin.copy_, run_underlying hu, sizeOf, typeInfo, hti, hlenY, hmin, h5 C.W rfl, hst, goInt]
  | ow0 hι hT => exact absurd (by omega) hm0
end Go.Proofs.YtngeckkebejhiaaDoor.Asl
