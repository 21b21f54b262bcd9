/- Part 10 of what the row leans on: abstract values and states, their rules, and the contracts of the functions. -/
import Derived.ChangeArms
import Derived.ChangeSlices
import Derived.SizedLaws
import Derived.WideShapes
import Derived.Test.YtejeemhenoobjaaZW14P9
namespace Go.Proofs.Ytejeemhenoobjaa.Asl
open Go Go.RowKit
set_option linter.unusedVariables false
set_option linter.unusedSimpArgs false

/-- The world as a call finds it: all that stands is only read. -/
def inC (W : World) : Cx := { W := W, F := fun b => b < W.heap.size, O := fun _ => False, ι := fun _ => none }
theorem gl_none (h : globs = []) (C : Cx) : Gl C := fun p hp => by rw [h] at hp; cases hp
theorem inC_ok (W : World) (hg : Gl (inC W)) : HOk (inC W) noHeap := by
  refine ⟨fun _ _ h => ?_, fun _ _ => rfl, fun _ _ _ _ _ _ _ h => ?_, fun _ h => h.elim, fun _ h => h, fun _ h => h.elim, hg⟩ <;> cases h
def Rda (P : Program) (t : TypeId) {α : Type} (g : α → AV) (ok : α → Prop) : Prop :=
  ∀ (H : Type) (enc : TypeId × Value → H) (W : World) (fuel : Nat) (cs : List Value) (D : DataW H) (p : List MemPlace),
    DataW.trod enc P W 0 (fun _ => true) true fuel t cs = some (D, p) → (∀ n ∈ D.weights P t, n ≤ reachBytes) → ∃ x, RC (inC W) (g x) cs ∧ ok x

theorem rda_int {P : Program} {t : TypeId} {k : IntKind} (hu : P.underlying t = some (.int k)) : Rda P t (fun x => .raw (.int k x)) (fun x => (Lit.int k x).wf = true) := by
  intro H enc W fuel cs D p h hw
  obtain ⟨n, rfl, _, hn⟩ := DataW.trod_int hu h
  exact ⟨n, .one (.raw _) rfl, hn⟩
theorem rda_bool {P : Program} {t : TypeId} (hu : P.underlying t = some .bool) : Rda P t (fun x => .raw (.bool x)) (fun _ => True) := by
  intro H enc W fuel cs D p h hw
  obtain ⟨n, rfl, _⟩ := DataW.trod_bool hu h
  exact ⟨n, .one (.raw _) rfl, trivial⟩
theorem rda_string {P : Program} {t : TypeId} (hu : P.underlying t = some .string) : Rda P t (fun s => .raw (.string s)) (fun s => s.size ≤ 140737488351232) := by
  intro H enc W fuel cs D p h hw
  obtain ⟨s, rfl, e, _⟩ := DataW.trod_string hu h
  have e1 : D = .lit (.string s.data.toList) := congrArg Prod.fst e
  subst e1
  refine ⟨s, .one (.raw _) rfl, ?_⟩
  have := hw s.data.toList.length (by simp [DataW.weights])
  rw [Array.length_toList] at this
  exact this
theorem add_add' (a : Addr) (i j : Nat) : (a.add i).add j = a.add (i + j) := by
  unfold Addr.add
  by_cases h : i = 0 <;> by_cases h' : j = 0 <;> simp_all [Nat.add_assoc]
theorem weights_all' {H : Type} {P : Program} {e : TypeId} : ∀ {l : List (DataW H)} {d : DataW H}, d ∈ l → ∀ n ∈ d.weights P e, n ∈ DataW.weightsAll P e l
  | [], d, h, _, _ => by simp at h
  | x :: r, d, h, n, hn => by
    simp only [DataW.weightsAll, List.mem_append]
    rcases List.mem_cons.1 h with rfl | h
    · exact .inl hn
    · exact .inr (weights_all' h n hn)
theorem row_of {α : Type} {W : World} {a : Addr} {sz : Nat} {g : α → AV} {ok : α → Prop} : ∀ n, (∀ i, i < n → ∃ x, ok x ∧ ∃ c : List Value, c.length = sz ∧ RC (inC W) (g x) c ∧ ∀ j u, c[j]? = some u → W.cell? (a.add (i * sz + j)) = some u) →
    ∃ (l : List α) (cs : List Value), l.length = n ∧ cs.length = n * sz ∧ RCs (inC W) (l.map g) cs ∧ (∀ j u, cs[j]? = some u → W.cell? (a.add j) = some u) ∧ ∀ x ∈ l, ok x
  | 0, _ => ⟨[], [], rfl, by simp, .nil, fun j u h => by simp at h, by simp⟩
  | n + 1, h => by
    obtain ⟨l, cs, h1, h2, h3, h4, h5⟩ := row_of n (fun i hi => h i (by omega))
    obtain ⟨x, hok, c, k1, k2, k3⟩ := h n (by omega)
    refine ⟨l ++ [x], cs ++ c, by simp [h1], by simp [h2, k1, Nat.add_mul], ?_, fun j u hj => ?_, fun y hy => ?_⟩
    · rw [List.map_append]
      refine h3.append ?_
      have := RCs.cons k2 RCs.nil
      rwa [List.append_nil] at this
    · rcases Nat.lt_or_ge j cs.length with hlt | hge
      · rw [List.getElem?_append_left hlt] at hj; exact h4 j u hj
      · rw [List.getElem?_append_right hge] at hj
        have := k3 _ _ hj
        rw [← h2, show cs.length + (j - cs.length) = j by omega] at this
        exact this
    · rcases List.mem_append.1 hy with hy | hy
      · exact h5 y hy
      · rw [List.mem_singleton.1 hy]; exact hok
theorem rda_slice {P : Program} {t e : TypeId} {α : Type} {g : α → AV} {ok : α → Prop} {b sz : Nat} (hu : P.underlying t = some (.slice e)) (hc : P.cellsOf e = sz) (hp : 0 < sz) (hb : P.bytesOf e = b) (hbp : 0 < b) (hd : Rda P e g ok) (hs : ∀ x, (g x).size = sz) :
    Rda P t (fun l : List α => AV.sl sz (l.map g)) (fun l => l.length * b ≤ 140737488351232 ∧ l.length ≤ 140737488351232 ∧ ∀ x ∈ l, ok x) := by
  intro H enc W fuel cs D p h hw
  rcases DataW.trod_slice hu h with ⟨rfl, e0⟩ | ⟨a, len, cap, elems, rest, n, _, rfl, e0, _, hl, hm, hlen, hel, _, _⟩
  · exact ⟨[], .one .sl0 rfl, by simp, by simp, by simp⟩
  · have e1 : D = .slice (elems.map (·.1)) (rest.map (·.1)) := congrArg Prod.fst e0
    subst e1
    have hw1 : ∀ n ∈ ((elems.map (·.1)).length + (rest.map (·.1)).length) * P.bytesOf e :: (DataW.weightsAll P e (elems.map (·.1)) ++ DataW.weightsAll P e (rest.map (·.1))), n ≤ reachBytes := by
      intro n hn
      refine hw n ?_
      simp only [DataW.weights, hu]
      exact hn
    have each : ∀ i, i < len → ∃ x, ok x ∧ ∃ c : List Value, c.length = sz ∧ RC (inC W) (g x) c ∧ ∀ j u, c[j]? = some u → W.cell? (a.add (i * sz + j)) = some u := by
      intro i hi
      have h1 := hel i hi
      rw [List.getElem?_eq_getElem (by omega)] at h1
      obtain ⟨c, h2, h3⟩ := Option.bind_eq_some_iff.1 h1
      obtain ⟨x, hx, hok⟩ := hd H enc W n c (elems[i]'(by omega)).1 (elems[i]'(by omega)).2 (by rw [h3]) (fun m hm => hw1 m (List.mem_cons_of_mem _ (List.mem_append_left _ (weights_all' (List.mem_map.2 ⟨_, List.getElem_mem (by omega), rfl⟩) m hm))))
      obtain ⟨_, h4, h5⟩ := World.cells?_some h2
      refine ⟨x, hok, c, by rw [h4, hc], hx, fun j u hj => ?_⟩
      have hj' := (List.getElem?_eq_some_iff.1 hj).1
      have := h5 j (by omega)
      rw [add_add', hc] at this
      rw [this, hj]
    obtain ⟨l, cells, hll, hcl, hrc, hrd, hok⟩ := row_of len each
    subst hll
    refine ⟨l, .one ?_ rfl, ?_, ?_, hok⟩
    · rcases l with _ | ⟨x, l⟩
      · exact .sl0
      · have h0 : 0 < cells.length := by rw [hcl]; simp [Nat.add_mul]; omega
        have hz := hrd 0 _ (List.getElem?_eq_getElem h0)
        have hsp : a.spot = none ∧ a.block < W.heap.size := by
          simp only [Addr.add, if_true] at hz
          unfold World.cell? at hz
          split at hz
          · rename_i hb'
            split at hz
            · cases hz
            · rename_i hsp
              exact ⟨by simpa using hsp, (Array.getElem?_eq_some_iff.1 hb').1⟩
          · cases hz
        have ha : a = ⟨a.block, a.off, none⟩ := by cases a; simp at hsp; simp [hsp.1]
        rw [ha]
        have := RV.sl (C := inC W) (sz := sz) (l := (x :: l).map g) (b := a.block) (o := a.off) (c := cap) hrc (fun y hy => by
          obtain ⟨z, _, rfl⟩ := List.mem_map.1 hy
          exact hs z) hsp.2 (fun j u hj => by
          have := hrd j u hj
          rw [ha, add_at] at this
          exact this) (by rw [List.length_map]; exact hl)
        rw [List.length_map] at this
        exact this
    · have := hw1 _ (List.mem_cons_self)
      rw [List.length_map, hlen, hb] at this
      exact Nat.le_trans (Nat.mul_le_mul_right _ (Nat.le_add_right _ _)) this
    · have := hw1 _ (List.mem_cons_self)
      rw [List.length_map, hlen, hb] at this
      exact Nat.le_trans (Nat.le_trans (Nat.le_mul_of_pos_right _ hbp) (Nat.mul_le_mul_right _ (Nat.le_add_right _ _))) this
def RdFa (P : Program) (l : List (TypeId × Nat)) (off : Nat) {α : Type} (g : α → List AV) (ok : α → Prop) : Prop :=
  ∀ (H : Type) (enc : TypeId × Value → H) (W : World) (fuel : Nat) (cs : List Value) (xs : List (DataW H × List MemPlace)),
    xs.length = l.length → (∀ (i : Nat) (f : TypeId × Nat), l[i]? = some f → DataW.trod enc P W 0 (fun _ => true) true fuel f.1 ((cs.drop f.2).take (P.cellsOf f.1)) = xs[i]?) →
    (∀ (i : Nat) (f : TypeId × Nat) (y : DataW H × List MemPlace), l[i]? = some f → xs[i]? = some y → ∀ n ∈ y.1.weights P f.1, n ≤ reachBytes) → cs.length = off + (l.map fun f => P.cellsOf f.1).sum → ∃ x, RCs (inC W) (g x) (cs.drop off) ∧ ok x
theorem rdfa_one {P : Program} {t : TypeId} {off : Nat} {α : Type} {g : α → AV} {ok : α → Prop} (hd : Rda P t g ok) : RdFa P [(t, off)] off (fun x => [g x]) ok := by
  intro H enc W fuel cs xs hx hf hw hl
  match xs, hx with
  | [y], _ =>
    obtain ⟨x, hk, ho⟩ := hd H enc W fuel _ y.1 y.2 (hf 0 _ rfl) (hw 0 _ y rfl rfl)
    refine ⟨x, ?_, ho⟩
    simp at hl
    rw [List.take_of_length_le (by rw [List.length_drop]; show cs.length - off ≤ P.cellsOf t; omega)] at hk
    have := RCs.cons hk RCs.nil
    rwa [List.append_nil] at this
theorem rdfa_cons {P : Program} {t : TypeId} {off sz : Nat} {l : List (TypeId × Nat)} {α β : Type} {ga : α → AV} {gb : β → List AV} {oka : α → Prop} {okb : β → Prop} (hc : P.cellsOf t = sz) (ha : Rda P t ga oka) (hb : RdFa P l (off + sz) gb okb) :
    RdFa P ((t, off) :: l) off (fun x : α × β => ga x.1 :: gb x.2) (fun x => oka x.1 ∧ okb x.2) := by
  intro H enc W fuel cs xs hx hf hw hl
  match xs, hx with
  | y :: ys, hx =>
    simp [hc] at hl
    obtain ⟨x, hk, ho⟩ := ha H enc W fuel _ y.1 y.2 (hf 0 _ rfl) (hw 0 _ y rfl rfl)
    obtain ⟨z, hk2, ho2⟩ := hb H enc W fuel cs ys (by simpa using hx) (fun i f h => hf (i + 1) f h) (fun i f y h h' => hw (i + 1) f y h h') (by omega)
    refine ⟨(x, z), ?_, ho, ho2⟩
    simp only [hc] at hk
    have := RCs.cons hk hk2
    rw [← List.drop_drop, List.take_append_drop] at this
    exact this
theorem rda_struct {P : Program} {t : TypeId} {fs : Array Field} {l : List (TypeId × Nat)} {α β : Type} {g : α → List AV} {ok : α → Prop} {f : β → α} {m : α → β} (hu : P.underlying t = some (.struct fs)) (hl : fs.toList.map (fun f => (f.type, f.offset)) = l)
    (hc : P.cellsOf t = (l.map fun f => P.cellsOf f.1).sum) (hd : RdFa P l 0 g ok) (hg : ∀ x, f (m x) = x) : Rda P t (fun x => .agg (g (f x))) (fun x => ok (f x)) := by
  intro H enc W fuel cs D p h hw
  obtain ⟨xs, n, _, e0, hcs, hxl, hf⟩ := DataW.trod_struct hu h
  have e1 : D = .agg (xs.map (·.1)) := congrArg Prod.fst e0
  subst e1
  subst hl
  have hget : ∀ (i : Nat) (z : TypeId × Nat), (fs.toList.map (fun f => (f.type, f.offset)))[i]? = some z → ∃ fd : Field, fs[i]? = some fd ∧ z = (fd.type, fd.offset) := by
    intro i z hz
    rw [List.getElem?_map, Array.getElem?_toList] at hz
    obtain ⟨fd, h1, h2⟩ := Option.map_eq_some_iff.1 hz
    exact ⟨fd, h1, h2.symm⟩
  obtain ⟨x, hk, ho⟩ := hd H enc W n cs xs (by simp [hxl]) (fun i z hz => by
      obtain ⟨fd, h1, rfl⟩ := hget i z hz
      exact hf i fd h1) (fun i z y hz hy m hm => by
      obtain ⟨fd, h1, rfl⟩ := hget i z hz
      refine hw m ?_
      simp only [DataW.weights, hu]
      refine DataW.weights_mem_each (j := i) (t := fd.type) (d := y.1) ?_ ?_ m hm
      · rw [List.getElem?_map, Array.getElem?_toList, h1]; rfl
      · rw [List.getElem?_map, hy]; rfl) (by omega)
  refine ⟨m x, ?_, by show ok (f (m x)); rw [hg]; exact ho⟩
  show RC _ (.agg (g (f (m x)))) cs
  rw [hg]
  exact .agg hk
/-- An argument: as it comes. -/
theorem rda_arg {P : Program} {ts : List TypeId} {H : Type} {ds : List (DataW H)} {t : TypeId} {α : Type} {g : α → AV} {ok : α → Prop} (hd : Rda P t g ok) (hs : (DataW.weightsEach P ts ds).all (· ≤ reachBytes) = true)
    {enc : TypeId × Value → H} {W : World} {v : Value} {D : DataW H} {p : List MemPlace} (h : DataW.Trod enc P W 0 (fun _ => true) true t v D p) {j : Nat} (ht : ts[j]? = some t) (hj : ds[j]? = some D) : ∃ x, RC (inC W) (g x) v.cells.toList ∧ ok x := by
  obtain ⟨fuel, hf⟩ := h
  refine hd H enc W fuel _ D p hf fun n hn => ?_
  have := List.all_eq_true.1 hs n (DataW.weights_mem_each ht hj n hn)
  simpa using this
theorem rv_slice {C : Cx} {sz : Nat} {l : List AV} {a : Option Addr} {len cap : Nat} (h : RC C (.sl sz l) (Value.slice a len cap).cells.toList) : RV C (.sl sz l) (.slice a len cap) := by
  obtain ⟨v, h1, h2, _⟩ := h.nag rfl
  have : (Value.slice a len cap).cells.toList = [.slice a len cap] := rfl
  rw [this] at h1
  cases h1
  exact h2
theorem rv_struct {C : Cx} {l : List AV} {cs : Array Value} (h : RC C (.agg l) (Value.agg cs).cells.toList) : RV C (.agg l) (.agg cs) := by
  have := RV.agg h.ag
  simpa [Value.cells] using this
/-- What a law's call comes to. -/
theorem law_calls {P : Program} {f : FuncId} {args : List AV} {W : World} {vs : List Value} (hg : Gl (inC W)) (h : CallD P f args noHeap (.raw (.bool true)) noHeap) (hv : RVs (inC W) args vs) : Calls P f vs.toArray W fun e W' => e = .returned (.bool true) ∧ Below W.heap.size W W' := by
  refine Calls.mono (h (inC W) vs (inC_ok W hg) hv) ?_
  rintro e W' ⟨v, C', rfl, rfl, ex, _, hr, _⟩
  cases hr
  exact ⟨rfl, ⟨ex.os, ex.tape, ex.output, ex.size, fun k hk => ex.heap k hk (fun ho => ho.elim)⟩⟩
end Go.Proofs.Ytejeemhenoobjaa.Asl

namespace Go.Proofs.Ytejeemhenoobjaa.Asl
open Go Go.RowKit
set_option linter.unusedVariables false
set_option linter.unusedSimpArgs false
variable {P : Program} {nt : Nat} {C : Cx} {σ : St} {Q : Exit → St → Prop} {e : Nat → AV} {h h' : Hp}

/-- All that came in is still there. -/
def BigIn (h g : Hp) : Prop := ∀ id, 100000 ≤ id → g id = none → h id = none
@[simp] theorem bigIn_no {g : Hp} : BigIn noHeap g := fun _ _ _ => rfl
theorem bigIn_set {h g : Hp} {u : Nat} {o : Ob} (hu : u < 100000 ∨ g u ≠ none) : BigIn (setH h u o) g ↔ BigIn h g := by
  have key : ∀ id, 100000 ≤ id → g id = none → setH h u o id = h id := fun id h1 h2 => by
    simp only [setH]
    rw [if_neg]
    rintro rfl
    rcases hu with hu | hu
    · omega
    · exact hu h2
  exact ⟨fun hh id h1 h2 => by rw [← key id h1 h2]; exact hh id h1 h2, fun hh id h1 h2 => by rw [key id h1 h2]; exact hh id h1 h2⟩
@[simp] theorem bigIn_small {h g : Hp} {u : Nat} {o : Ob} (hu : u < 100000) : BigIn (setH h u o) g ↔ BigIn h g := bigIn_set (.inl hu)
@[simp] theorem bigIn_in {h g : Hp} {u : Nat} {o : Ob} (hu : ¬ g u = none) : BigIn (setH h u o) g ↔ BigIn h g := bigIn_set (.inr hu)
/-- One value, as a state. -/
def E1 (r : AV) : Nat → AV := fun t => if t = 0 then r else .raw undef
def Fin (h : Hp) (r : AV) (h' : Hp) (r' : AV) : Prop := Weak ⟨E1 r, h⟩ ⟨E1 r', h'⟩
theorem Fin.refl (h : Hp) (r : AV) : Fin h r h r := Weak.refl _
theorem Fin.use {r r' : AV} (hf : Fin h r h' r') {C : Cx} {v : Value} (hh : HOk C h) (hr : RV C r v) : ∃ C2, C2.W = C.W ∧ Ext C C2 ∧ HOk C2 h' ∧ RV C2 r' v := by
  obtain ⟨C2, h1, h2, h3⟩ := hf 1 C { tmps := #[v], defers := [] } ⟨rfl, rfl, fun t => by
    show RV C (E1 r t) _
    unfold E1
    split
    · rename_i h; subst h; exact hr
    · rename_i h
      have : (#[v] : Array Value).getD t undef = undef := by
        rw [Array.getD_eq_getD_getElem?, Array.getElem?_eq_none (by simp; omega)]; rfl
      rw [this]; exact .raw _, hh⟩
  exact ⟨C2, h1, h2, h3.heap, by simpa [E1] using h3.env 0⟩
theorem Fin.drop {r : AV} (hn : Is r.noid true) (hb : BigIn h noHeap) : Fin h r noHeap r := by
  refine Weak.sub (fun id ob hob => by cases hob) hb fun t => .inr ⟨rfl, ?_⟩
  unfold E1
  split
  · exact noid_within.1 r hn
  · rfl
theorem Fin.frz {g : Hp} {r r' : AV} (xs : List AV) (hg : Is (frzA h (AV.rowsOfs xs)) g) (hr : Is (r.deep g) r') (hn : Is r'.noid true) (hb : BigIn g noHeap) : Fin h r noHeap r' := by
  have h1 : Fin h r (deepH g) r' := by
    have := Weak.frz (e := E1 r) (h := h) xs
    rw [hg] at this
    have e : (fun t => (E1 r t).deep g) = E1 r' := by
      funext t
      unfold E1
      split
      · exact hr
      · rfl
    rw [e] at this
    exact this
  exact Weak.trans h1 (Fin.drop hn fun id hid h0 => by simp only [deepH, hb id hid h0]; rfl)
theorem Fin.frzR {g : Hp} {r r' : AV} (hg : Is (frzA h (AV.rowsOf r)) g) (hr : Is (r.deep g) r') (hn : Is r'.noid true) (hb : BigIn g noHeap) : Fin h r noHeap r' :=
  Fin.frz [r] (by simpa [AV.rowsOfs] using hg) hr hn hb
theorem Fin.sub {r : AV} (hsub : ∀ id ob, h' id = some ob → h id = some ob ∧ ob.within h' = true) (hbig : BigIn h h') (hr : Is (r.within h') true) : Fin h r h' r :=
  Weak.sub hsub hbig fun t => .inr ⟨rfl, by
    unfold E1
    split
    · exact hr
    · rfl⟩
theorem Fin.trans {h1 h2 h3 : Hp} {a b c : AV} (x : Fin h1 a h2 b) (y : Fin h2 b h3 c) : Fin h1 a h3 c := Weak.trans x y
/-- A function's contract. -/
theorem calls_go {f : FuncId} {fn : Func} {c : Code} {xs : List AV} {rs : List ResultVar} {r : AV} (hf : P.funcs[f]? = some fn) (hb : fn.body = some c) (hnt : fn.ntmps = nt) (hrs : fn.results.toList = rs) (hxs : xs.length ≤ nt) (hbig : ∀ id, (h id).isSome = true → 100000 ≤ id)
    (hw : ∀ Q : Exit → St → Prop, (∀ σ ex ys r0, (ex = .normal ∨ ex = .ret) → IsO (resAV P σ.env σ.heap rs) ys → Is (outOf ys) r0 → Fin σ.heap r0 h' r → Q ex σ) → (∀ σ σ2 ex, Weak σ σ2 → Q ex σ2 → Q ex σ) → AWP P nt c Q ⟨envOf xs, h⟩) : CallD P f xs h r h' := by
  intro C vs hC hvs
  refine calls_of_wp hf hb ?_
  have hl := hvs.len
  have hs : Sat nt C ⟨envOf xs, h⟩ { tmps := vs.toArray ++ Array.replicate (fn.ntmps - vs.toArray.size) undef, defers := [] } := by
    refine ⟨rfl, by simp [hnt]; omega, fun t => ?_, hC⟩
    simp only [envOf, Array.getD_eq_getD_getElem?, List.getD_eq_getElem?_getD]
    by_cases ht : t < xs.length
    · obtain ⟨v, h1, h2⟩ := hvs.at (List.getElem?_eq_getElem ht)
      rw [Array.getElem?_append_left (by simp; omega), List.getElem?_toArray, h1, List.getElem?_eq_getElem ht]
      exact h2
    · rw [List.getElem?_eq_none (by omega)]
      rw [Array.getElem?_append_right (by simp; omega), Array.getElem?_replicate]
      split <;> exact .raw _
  have hw1 := hw (fun ex σ' => (ex = .normal ∨ ex = .ret) ∧ ∃ σ2 ys, Weak σ' σ2 ∧ resAV P σ2.env σ2.heap fn.results.toList = some ys ∧ Fin σ2.heap (outOf ys) h' r) (fun σ ex ys r0 h1 h2 h3 h4 => ⟨h1, σ, ys, Weak.refl _, by rw [hrs]; exact h2, by rw [h3]; exact h4⟩) (fun σ σ2 ex h1 ⟨h2, σ3, ys, h3, h4⟩ => ⟨h2, σ3, ys, h1.trans h3, h4⟩)
  refine wp_mono (hw1 C C _ (.refl C) hs) ?_
  rintro ex a' W' ⟨σ', C', rfl, ⟨he, σ2, ys, hwk, hres, hfin⟩, ex, sat⟩
  obtain ⟨C2, hW, ex2, sat2⟩ := hwk nt C' a' sat
  obtain ⟨v, hr, hv⟩ := results_run sat2 hres
  rw [hW] at hr
  obtain ⟨C3, hW3, ex3, hh3, hv3⟩ := hfin.use sat2.heap hv
  have exx := (ex.trans ex2).trans ex3
  have hkeep : ∀ id p, C.ι id = some p → C3.ι id = some p := fun id p hp => by
    refine exx.ι id p (hbig id ?_) hp
    cases hi : h id with
    | none => rw [hC.no id hi] at hp; cases hp
    | some _ => rfl
  rcases he with rfl | rfl <;> exact ⟨sat.defers, v, hr, v, C3, rfl, hW3.trans hW, exx, hh3, hv3, hkeep⟩
/-- No row at all. -/
theorem Fin.nil {sz : Nat} (hb : BigIn h noHeap) : Fin h (.raw (.slice none 0 0)) noHeap (.sl sz []) := by
  refine (Fin.drop (h := h) (r := .raw (.slice none 0 0)) rfl hb).trans ?_
  intro nt C a s
  refine ⟨C, rfl, .refl C, s.defers, s.size, fun t => ?_, s.heap⟩
  have := s.env t
  show RV C (E1 (.sl sz []) t) _
  have h2 : RV C (E1 (.raw (.slice none 0 0)) t) (a.tmps.getD t undef) := this
  unfold E1 at h2 ⊢
  split
  · rename_i e
    rw [if_pos e] at h2
    rw [RV.raw_eq h2]; exact .sl0
  · rename_i e
    rw [if_neg e] at h2; exact h2
/-- A row that was made, handed on. -/
theorem Fin.row {k sz n : Nat} {ys : List AV} (hk : IsO (h k) (.arr sz ys)) (hn : Is (AV.noids ys) true) (hlt : k < 100000) (hb : BigIn h noHeap) : Fin h (.ow k sz 0 n) (setH noHeap 99999 (.arr sz ys)) (.ow 99999 sz 0 n) := by
  have h1 : Fin h (.ow k sz 0 n) (setH noHeap k (.arr sz ys)) (.ow k sz 0 n) := by
    refine Fin.sub (fun id ob hid => ?_) (fun id h1 h2 => ?_) ?_
    · simp only [setH_at, noHeap_at] at hid
      split at hid
      · rename_i e; subst e; cases hid
        refine ⟨hk, ?_⟩
        have := (noid_within.2 _ hn)
        have mono : (∀ x : AV, x.noid = true → x.within (setH noHeap id (.arr sz ys)) = true) ∧ ∀ l : List AV, AV.noids l = true → AV.withins (setH noHeap id (.arr sz ys)) l = true := by
          refine ⟨fun x => ?_, fun l => ?_⟩
          · refine AV.rec (motive_1 := fun x => x.noid = true → x.within (setH noHeap id (.arr sz ys)) = true) (motive_2 := fun l => AV.noids l = true → AV.withins (setH noHeap id (.arr sz ys)) l = true) ?_ ?_ ?_ ?_ ?_ ?_ ?_ ?_ ?_ ?_ ?_ ?_ ?_ x <;> intros <;> simp_all [AV.noid, AV.within, AV.noids, AV.withins]
          · refine AV.rec_1 (motive_1 := fun x => x.noid = true → x.within (setH noHeap id (.arr sz ys)) = true) (motive_2 := fun l => AV.noids l = true → AV.withins (setH noHeap id (.arr sz ys)) l = true) ?_ ?_ ?_ ?_ ?_ ?_ ?_ ?_ ?_ ?_ ?_ ?_ ?_ l <;> intros <;> simp_all [AV.noid, AV.within, AV.noids, AV.withins]
        exact mono.2 _ hn
      · cases hid
    · exact hb id h1 rfl
    · show (AV.within _ (.ow k sz 0 n)) = true
      simp [AV.within, setH]
  refine h1.trans ?_
  have h2 := Weak.ren (e := E1 (.ow k sz 0 n)) (h := setH noHeap k (.arr sz ys)) (sw_sw k 99999) (sw_sw k 99999) (fun i hi => by unfold sw; rw [if_neg (by omega), if_neg (by omega)])
  rw [renH_set, renH_no] at h2
  have e1 : (fun t => (E1 (.ow k sz 0 n) t).ren (sw k 99999)) = E1 (.ow 99999 sz 0 n) := by
    funext t
    unfold E1
    split
    · simp [AV.ren, sw]
    · rfl
  have e2 : (Ob.arr sz ys).ren (sw k 99999) = .arr sz ys := by simp [Ob.ren, noid_ren.2 _ hn]
  rw [e1, e2] at h2
  simp only [sw, if_true] at h2
  exact h2
/-- What a function hands back, told with less. -/
theorem CallD.fin {f : FuncId} {xs : List AV} {r r' : AV} {h0 h1 h2 : Hp} (hbig : ∀ id, (h0 id).isSome = true → 100000 ≤ id) (hc : CallD P f xs h0 r h1) (hf : Fin h1 r h2 r') : CallD P f xs h0 r' h2 := by
  intro C vs hC hvs
  refine Calls.mono (hc C vs hC hvs) ?_
  rintro en W' ⟨v, C', rfl, rfl, ex, hok, hrv, hk⟩
  obtain ⟨C2, e1, e2, e3, e4⟩ := hf.use hok hrv
  refine ⟨v, C2, rfl, e1, ex.trans e2, e3, e4, fun id p hp => e2.ι id p (hbig id ?_) (hk id p hp)⟩
  cases hi : h0 id with
  | none => rw [hC.no id hi] at hp; cases hp
  | some _ => rfl
/-- A row that was made, told by its content. -/
theorem CallD.told {f : FuncId} {xs : List AV} {sz n : Nat} {ys : List AV} (hc : CallD P f xs noHeap (.ow 99999 sz 0 n) (setH noHeap 99999 (.arr sz ys))) (hy : AV.noids ys = true) (hn : n ≤ ys.length) : CallD P f xs noHeap (.sl sz (ys.take n)) noHeap := by
  have hde : AV.deeps (setH noHeap 99999 (.arr sz ys)) ys = ys := by
    have : (∀ x : AV, x.noid = true → ∀ g, x.deep g = x) ∧ ∀ l : List AV, AV.noids l = true → ∀ g, AV.deeps g l = l := by
      refine ⟨fun x => ?_, fun l => ?_⟩
      · refine AV.rec (motive_1 := fun x => x.noid = true → ∀ g, x.deep g = x) (motive_2 := fun l => AV.noids l = true → ∀ g, AV.deeps g l = l) ?_ ?_ ?_ ?_ ?_ ?_ ?_ ?_ ?_ ?_ ?_ ?_ ?_ x <;> intros <;> simp_all [AV.noid, AV.deep, AV.noids, AV.deeps]
      · refine AV.rec_1 (motive_1 := fun x => x.noid = true → ∀ g, x.deep g = x) (motive_2 := fun l => AV.noids l = true → ∀ g, AV.deeps g l = l) ?_ ?_ ?_ ?_ ?_ ?_ ?_ ?_ ?_ ?_ ?_ ?_ ?_ l <;> intros <;> simp_all [AV.noid, AV.deep, AV.noids, AV.deeps]
    exact this.2 _ hy _
  have hro : AV.rowsOfs ys = [] := by
    have : (∀ x : AV, x.noid = true → x.rowsOf = []) ∧ ∀ l : List AV, AV.noids l = true → AV.rowsOfs l = [] := by
      refine ⟨fun x => ?_, fun l => ?_⟩
      · refine AV.rec (motive_1 := fun x => x.noid = true → x.rowsOf = []) (motive_2 := fun l => AV.noids l = true → AV.rowsOfs l = []) ?_ ?_ ?_ ?_ ?_ ?_ ?_ ?_ ?_ ?_ ?_ ?_ ?_ x <;> intros <;> simp_all [AV.noid, AV.rowsOf, AV.noids, AV.rowsOfs]
      · refine AV.rec_1 (motive_1 := fun x => x.noid = true → x.rowsOf = []) (motive_2 := fun l => AV.noids l = true → AV.rowsOfs l = []) ?_ ?_ ?_ ?_ ?_ ?_ ?_ ?_ ?_ ?_ ?_ ?_ ?_ l <;> intros <;> simp_all [AV.noid, AV.rowsOf, AV.noids, AV.rowsOfs]
    exact this.2 _ hy
  have hy' : AV.noids (ys.take n) = true := AV.noids_iff.2 fun x hx => AV.noids_iff.1 hy x (List.mem_of_mem_take hx)
  refine hc.fin (fun id h => by cases h) (Fin.frz (g := setH noHeap 99999 (.fz sz ys)) [.ow 99999 sz 0 n] ?_ ?_ (r' := .sl sz (ys.take n)) ?_ (by simp))
  · simp only [AV.rowsOfs, AV.rowsOf, List.append_nil, frzA, frzX, setH_at, if_true, hro, frzL, frzY, hde, hy]
    funext id
    simp only [setH]
    split <;> rfl
  · simp [Is, AV.deep, seeF, hn]
  · simp [Is, AV.noid]
/-- A call that is handed one variable. -/
theorem w_callP {ops : Array Oper} {l : List Oper} {K : (Nat → AV) → Hp → Prop} {ty' : TypeId} {pos : String} {af : Array Edge} {dd : Option Tmp} {args : Array Operand} {ats : Array TypeId} {x : Operand} {f : FuncId} {xs ys xs' : List AV} {X X' r r' : AV} {g : Hp} (p : Nat)
    (hp : Is (plainCall P ⟨.value x, args, ats⟩) false) (ha : IsO (argsOf (evE e) x args) (f, xs)) (hf : Is (isFn P f) true) (hfr : Is (frzA h (AV.rowsOfs xs)) g) (hys : Is (AV.deeps g xs) ys) (hX : IsO (g p) (.box X)) (hn : Is X.noid true) (hxs : Is (AV.rens (sw 100000 p) ys) xs') (hw : Is (AV.withins (setH noHeap p (.box X)) ys) true)
    (hcall : CallD P f xs' (setH noHeap 100000 (.box X)) r' (setH noHeap 100000 (.box X'))) (hn' : Is X'.noid true) (hr' : Is (r'.ren (sw 100000 p)) r) (htg : Is (xs.any (fun y => decide (y.tagP = none)) || xs.any (fun y => decide (y.tagP = some (some p)))) true) (hr : RunK P ops l (putE e dd r) (setH g p (.box X')) K) : RunK P ops (⟨dd, .call ⟨.value x, args, ats⟩, ty', pos, af, none⟩ :: l) e h K := by
  have hc := hcall.sw 100000 p
  rw [← hxs, AV.rens_rens (sw_sw _ _)] at hc
  rw [hr'] at hc
  have hsp : sw 100000 p 100000 = p := by simp [sw]
  have e1 : ∀ Y : AV, Y.noid = true → renH (sw 100000 p) (sw 100000 p) (setH noHeap 100000 (.box Y)) = setH noHeap p (.box Y) := by
    intro Y hY
    rw [renH_set, renH_no, hsp]
    show setH noHeap p (.box (Y.ren _)) = _
    rw [noid_ren.1 _ hY]
  rw [e1 X hn, e1 X' hn'] at hc
  have hwX : X.within (setH noHeap p (.box X)) = true := by
    have : (∀ x : AV, x.noid = true → x.within (setH noHeap p (.box X)) = true) := by
      intro x
      refine AV.rec (motive_1 := fun x => x.noid = true → x.within (setH noHeap p (.box X)) = true) (motive_2 := fun l => AV.noids l = true → AV.withins (setH noHeap p (.box X)) l = true) ?_ ?_ ?_ ?_ ?_ ?_ ?_ ?_ ?_ ?_ ?_ ?_ ?_ x <;> intros <;> simp_all [AV.noid, AV.within, AV.noids, AV.withins]
    exact this X hn
  refine w_callS (hs := setH noHeap p (.box X)) (hs' := setH noHeap p (.box X')) hp ha hf hfr hys ?_ hw hc ?_ ?_ ?_ hr
  · intro id ob hid
    simp only [setH_at, noHeap_at] at hid
    split at hid
    · rename_i hi; subst hi; cases hid
      exact ⟨hX, hwX⟩
    · cases hid
  · intro id hid
    simp only [setH_at, noHeap_at] at hid ⊢
    split at hid
    · rename_i hi; subst hi; exact .inl (by simp)
    · cases hid
  · funext id
    simp only [backH, setH_at, noHeap_at]
    by_cases hi : id = p <;> simp [hi]
  · intro ht
    unfold Is at htg
    refine ⟨fun id hi => ?_, fun id hi => .inl ?_⟩
    · simp only [setH_at, noHeap_at] at hi
      split at hi
      · rename_i e; subst e
        rw [Bool.or_eq_true] at htg
        rcases htg with htg | htg
        · obtain ⟨x, hx, h2⟩ := List.any_eq_true.1 htg
          exact absurd (of_decide_eq_true h2) (ht x hx)
        · obtain ⟨x, hx, h2⟩ := List.any_eq_true.1 htg
          exact ⟨x, hx, of_decide_eq_true h2⟩
      · cases hi
    · simp only [setH_at, noHeap_at] at hi ⊢
      split at hi
      · rename_i e; rw [if_pos e]; rfl
      · cases hi
@[simp] theorem size_mk (a : Array UInt8) : (ByteArray.mk a).size = a.size := rfl
@[simp] theorem AV.tagP_ptr {p o : Nat} : (AV.ptr p o).tagP = if p < 90000 ∨ p = 100000 then some (some p) else none := rfl
@[simp] theorem AV.tagP_raw {v : Value} : (AV.raw v).tagP = some none := rfl
@[simp] theorem AV.tagP_sl {sz : Nat} {l : List AV} : (AV.sl sz l).tagP = some none := rfl
@[simp] theorem AV.tagP_fp {x : AV} : (AV.fp x).tagP = some none := rfl
@[simp] theorem AV.tagP_agg {l : List AV} : (AV.agg l).tagP = if AV.noids l = true then some none else none := rfl
@[simp] theorem AV.tagP_ifc {t : TypeId} {x : AV} : (AV.ifc t x).tagP = if x.noid = true then some none else none := rfl
@[simp] theorem AV.tagP_ow {id s o n : Nat} : (AV.ow id s o n).tagP = none := rfl
@[simp] theorem AV.tagP_ep {id s i o : Nat} : (AV.ep id s i o).tagP = none := rfl
@[simp] theorem AV.tagP_tup {l : List AV} : (AV.tup l).tagP = none := rfl
@[simp] theorem AV.tagP_fn {f : Fn} {l m : List AV} : (AV.fn f l m).tagP = none := rfl
@[simp] theorem AV.tagP_any : AV.any.tagP = none := rfl
attribute [simp] plainCall argsOf AV.within AV.withins Ob.within
attribute [simp] frzA frzX frzY AV.rowsOf AV.rowsOfs resAV outOf frzL frz1 seeF AV.noid AV.noids AV.deep AV.deeps
end Go.Proofs.Ytejeemhenoobjaa.Asl

namespace Go.Proofs.Ytejeemhenoobjaa.Asl
open Go Go.RowKit
set_option linter.unusedVariables false
set_option linter.unusedSimpArgs false
def bytesOf (s : ByteArray) : List Int := s.data.toList.map fun b => (b.toNat : Int)
def strOfNums (xs : List Int) : ByteArray := ⟨(xs.map fun n => UInt8.ofNat n.toNat).toArray⟩
/-- Every element is a byte. -/
def IsB (l : List Int) : Prop := ∀ b ∈ l, 0 ≤ b ∧ b ≤ 255
theorem isB_nil : IsB [] := fun b h => by cases h
theorem isB_cons {b : Int} {l : List Int} : IsB (b :: l) ↔ (0 ≤ b ∧ b ≤ 255) ∧ IsB l := by
  simp [IsB]
theorem isB_app {a b : List Int} : IsB (a ++ b) ↔ IsB a ∧ IsB b := by
  simp only [IsB, List.mem_append]
  exact ⟨fun h => ⟨fun x hx => h x (.inl hx), fun x hx => h x (.inr hx)⟩, fun h x hx => hx.elim (h.1 x) (h.2 x)⟩
theorem isB_take {a : List Int} (h : IsB a) (n : Nat) : IsB (a.take n) := fun b hb => h b (List.mem_of_mem_take hb)
theorem isB_drop {a : List Int} (h : IsB a) (n : Nat) : IsB (a.drop n) := fun b hb => h b (List.mem_of_mem_drop hb)
theorem isB_bytes (s : ByteArray) : IsB (bytesOf s) := by
  intro b hb
  obtain ⟨u, _, rfl⟩ := List.mem_map.1 hb
  have := u.toNat_lt
  omega
theorem len_bytes (s : ByteArray) : (bytesOf s).length = s.size := by rw [bytesOf, List.length_map, Array.length_toList]; rfl
theorem map_inj : ∀ {a b : List UInt8}, a.map (fun b => (b.toNat : Int)) = b.map (fun b => (b.toNat : Int)) → a = b
  | [], [], _ => rfl
  | [], _ :: _, h => by simp at h
  | _ :: _, [], h => by simp at h
  | x :: a, y :: b, h => by
    simp only [List.map_cons, List.cons.injEq] at h
    have h1 : x = y := UInt8.toNat_inj.1 (by omega)
    rw [h1, map_inj h.2]
theorem bytes_inj {s t : ByteArray} (h : bytesOf s = bytesOf t) : s = t := by
  have := map_inj h
  apply ByteArray.ext
  exact Array.toList_inj.1 this
theorem bytes_of_nums {xs : List Int} (h : IsB xs) : bytesOf (strOfNums xs) = xs := by
  simp only [bytesOf, strOfNums, List.map_map]
  conv => rhs; rw [← List.map_id xs]
  apply List.map_congr_left
  intro b hb
  have := h b hb
  simp only [Function.comp, id, UInt8.toNat_ofNat']
  omega
theorem nums_of_bytes (s : ByteArray) : strOfNums (bytesOf s) = s := bytes_inj (bytes_of_nums (isB_bytes s))
theorem byteAt_at (s : ByteArray) (j : Nat) : byteAt s (j : Int) = ((bytesOf s)[j]?).getD 0 := by
  unfold byteAt bytesOf
  simp
theorem byteAt_range (s : ByteArray) (i : Int) : 0 ≤ byteAt s i ∧ byteAt s i ≤ 255 := by
  unfold byteAt
  cases s.data.toList[i.toNat]? with
  | none => simp
  | some u => have := u.toNat_lt; simp; omega
theorem bt_nat (s : ByteArray) (n : Nat) (h : n < s.size) : (bytesOf s)[n]? = some (byteAt s (n : Int)) := by
  rw [byteAt_at, List.getElem?_eq_getElem (by rw [len_bytes]; exact h)]; rfl
theorem drop_byte (s : ByteArray) (n : Nat) (h : n < s.size) : (bytesOf s).drop n = byteAt s (n : Int) :: (bytesOf s).drop (n + 1) := by
  have h' : n < (bytesOf s).length := by rw [len_bytes]; exact h
  rw [List.drop_eq_getElem_cons h']
  have := bt_nat s n h
  rw [List.getElem?_eq_getElem h'] at this
  rw [Option.some.inj this]
/-! numbers -/
theorem wf_u8 {x : Int} (h : (Lit.int .u8 x).wf = true) : 0 ≤ x ∧ x ≤ 255 := by
  simp [Lit.wf, IntKind.min, IntKind.max, IntKind.bits, IntKind.signed] at h; omega
theorem wf_i64 {x : Int} (h : (Lit.int .i64 x).wf = true) : -9223372036854775808 ≤ x ∧ x ≤ 9223372036854775807 := by
  simp [Lit.wf, IntKind.min, IntKind.max, IntKind.bits, IntKind.signed] at h; omega
/-! lists of numbers in order -/
end Go.Proofs.Ytejeemhenoobjaa.Asl

namespace Go.Proofs.Ytejeemhenoobjaa.Asl
open Go Go.RowKit
set_option linter.unusedVariables false
set_option linter.unusedSimpArgs false
def u8 (n : Int) : AV := .raw (.int .u8 n)
def u8s (l : List Int) : List AV := l.map fun n => .raw (.int .u8 n)
@[simp] theorem u8s_len (l : List Int) : (u8s l).length = l.length := by simp [u8s]
@[simp] theorem u8s_app (l m : List Int) : u8s l ++ u8s m = u8s (l ++ m) := by simp [u8s]
@[simp] theorem u8s_app1 (l : List Int) (x : Int) : u8s l ++ [.raw (.int .u8 x)] = u8s (l ++ [x]) := by simp [u8s]
@[simp] theorem u8s_app2 (l : List Int) (x y : Int) : u8s l ++ [.raw (.int .u8 x), .raw (.int .u8 y)] = u8s (l ++ [x, y]) := by simp [u8s]
@[simp] theorem u8s_take (l : List Int) (n : Nat) : (u8s l).take n = u8s (l.take n) := by simp [u8s, List.map_take]
@[simp] theorem u8s_drop (l : List Int) (n : Nat) : (u8s l).drop n = u8s (l.drop n) := by simp [u8s, List.map_drop]
@[simp] theorem u8s_get (l : List Int) (i : Nat) : (u8s l)[i]? = (l[i]?).map fun n => AV.raw (.int .u8 n) := by simp [u8s]
@[simp] theorem u8s_set (l : List Int) (i : Nat) (x : Int) : (u8s l).set i (.raw (.int .u8 x)) = u8s (l.set i x) := by simp [u8s, List.map_set]
@[simp] theorem u8s_noids (l : List Int) : AV.noids (u8s l) = true := by
  rw [AV.noids_iff]; intro x hx
  obtain ⟨n, _, rfl⟩ := List.mem_map.1 hx
  rfl
@[simp] theorem u8s_withins (h : Hp) (l : List Int) : AV.withins h (u8s l) = true := by
  induction l with
  | nil => rfl
  | cons x l ih => simpa [u8s, AV.withins, AV.within] using ih
@[simp] theorem u8s_rens (π : Nat → Nat) (l : List Int) : AV.rens π (u8s l) = u8s l := by
  induction l with
  | nil => rfl
  | cons x l ih => simpa [u8s, AV.rens, AV.ren] using ih
@[simp] theorem u8s_deeps (h : Hp) (l : List Int) : AV.deeps h (u8s l) = u8s l := by
  induction l with
  | nil => rfl
  | cons x l ih => simpa [u8s, AV.deeps, AV.deep] using ih
theorem noid_deep : (∀ x : AV, x.noid = true → ∀ g, x.deep g = x) ∧ ∀ l : List AV, AV.noids l = true → ∀ g, AV.deeps g l = l := by
  refine ⟨fun x => ?_, fun l => ?_⟩
  · refine AV.rec (motive_1 := fun x => x.noid = true → ∀ g, x.deep g = x) (motive_2 := fun l => AV.noids l = true → ∀ g, AV.deeps g l = l) ?_ ?_ ?_ ?_ ?_ ?_ ?_ ?_ ?_ ?_ ?_ ?_ ?_ x <;> intros <;> simp_all [AV.noid, AV.deep, AV.noids, AV.deeps]
  · refine AV.rec_1 (motive_1 := fun x => x.noid = true → ∀ g, x.deep g = x) (motive_2 := fun l => AV.noids l = true → ∀ g, AV.deeps g l = l) ?_ ?_ ?_ ?_ ?_ ?_ ?_ ?_ ?_ ?_ ?_ ?_ ?_ l <;> intros <;> simp_all [AV.noid, AV.deep, AV.noids, AV.deeps]
theorem noid_withins (h : Hp) : (∀ x : AV, x.noid = true → x.within h = true) ∧ ∀ l : List AV, AV.noids l = true → AV.withins h l = true := by
  refine ⟨fun x => ?_, fun l => ?_⟩
  · refine AV.rec (motive_1 := fun x => x.noid = true → x.within h = true) (motive_2 := fun l => AV.noids l = true → AV.withins h l = true) ?_ ?_ ?_ ?_ ?_ ?_ ?_ ?_ ?_ ?_ ?_ ?_ ?_ x <;> intros <;> simp_all [AV.noid, AV.within, AV.noids, AV.withins]
  · refine AV.rec_1 (motive_1 := fun x => x.noid = true → x.within h = true) (motive_2 := fun l => AV.noids l = true → AV.withins h l = true) ?_ ?_ ?_ ?_ ?_ ?_ ?_ ?_ ?_ ?_ ?_ ?_ ?_ l <;> intros <;> simp_all [AV.noid, AV.within, AV.noids, AV.withins]
@[simp] theorem u8s_rows (l : List Int) : AV.rowsOfs (u8s l) = [] := noid_rows.2 _ (u8s_noids l)
@[simp] theorem u8s_sizes (l : List Int) : AV.sizes (u8s l) = l.length := by
  induction l with
  | nil => rfl
  | cons x l ih => simp only [u8s, List.map_cons, AV.sizes, AV.size, List.length_cons] at ih ⊢; omega
@[simp] theorem cells_u8s (b : ByteArray) : strCellsAV b = u8s (bytesOf b) := by simp [strCellsAV, u8s, bytesOf]
theorem u8s_size1 (l : List Int) : ∀ x ∈ u8s l, x.size = 1 := by
  intro x hx
  obtain ⟨n, _, rfl⟩ := List.mem_map.1 hx
  simp
theorem setL_u8s {x : Int} : ∀ (l : List Int) (i : Nat), i < l.length → AV.setL 1 (.raw (.int .u8 x)) (u8s l) i = some (u8s (l.set i x))
  | [], i, h => by simp at h
  | y :: l, 0, h => by simp [u8s, AV.setL, AV.set]
  | y :: l, i + 1, h => by
    have := setL_u8s (x := x) l i (by simpa using h)
    show AV.setL 1 _ (AV.raw (.int .u8 y) :: u8s l) (i + 1) = _
    rw [AV.setL, if_neg (by simp [AV.size]), show i + 1 - (AV.raw (.int .u8 y)).size = i by simp [AV.size], this]
    rfl
theorem getL_u8s : ∀ (l : List Int) (i : Nat), AV.getL 1 false (u8s l) i = (l[i]?).map fun n => AV.raw (.int .u8 n)
  | [], i => by simp [u8s]
  | y :: l, 0 => by simp [u8s]
  | y :: l, i + 1 => by
    have := getL_u8s l i
    show AV.getL 1 false (AV.raw (.int .u8 y) :: u8s l) (i + 1) = _
    rw [AV.getL, if_neg (by simp [AV.size]), show i + 1 - (AV.raw (.int .u8 y)).size = i by simp [AV.size], this]
    rfl
@[simp] theorem strOf_u8s : ∀ l : List Int, Asl.strOf (u8s l) = some (l.map fun n => UInt8.ofNat n.toNat)
  | [] => rfl
  | x :: l => by
    have := strOf_u8s l
    simp only [u8s, List.map_cons, Asl.strOf, byteOf] at this ⊢
    rw [this]
@[simp] theorem take_snoc {α : Type} (l : List α) (x : α) : List.take (l.length + 1) (l ++ [x]) = l ++ [x] := List.take_of_length_le (by simp)
theorem Fin.imp {h : Hp} {r r' : AV} (hi : ∀ C v, RV C r v → RV C r' v) : Fin h r h r' := fun nt C a s =>
  ⟨C, rfl, .refl C, s.defers, s.size, fun t => by
    have h2 : RV C (E1 r t) (a.tmps.getD t undef) := s.env t
    show RV C (E1 r' t) _
    unfold E1 at h2 ⊢
    split
    · rename_i e; rw [if_pos e] at h2; exact hi C _ h2
    · rename_i e; rw [if_neg e] at h2; exact h2, s.heap⟩
theorem nums_eq (l : List Int) : (⟨(l.map fun n => UInt8.ofNat n.toNat).toArray⟩ : ByteArray) = strOfNums l := rfl
end Go.Proofs.Ytejeemhenoobjaa.Asl

namespace Go.Proofs.Ytejeemhenoobjaa.Asl
open Go Go.RowKit
set_option linter.unusedVariables false
set_option linter.unusedSimpArgs false
variable {P : Program} {nt : Nat} {C : Cx} {σ : St} {Q : Exit → St → Prop} {e : Nat → AV} {h h' : Hp}
@[simp] theorem setL_u8s' {x : Int} (l : List Int) (i : Nat) : AV.setL 1 (.raw (.int .u8 x)) (u8s l) i = if i < l.length then some (u8s (l.set i x)) else none := by
  by_cases hi : i < l.length
  · rw [if_pos hi, setL_u8s l i hi]
  · rw [if_neg hi]
    induction l generalizing i with
    | nil => simp [u8s]
    | cons y l ih =>
      cases i with
      | zero => simp at hi
      | succ i =>
        show AV.setL 1 _ (AV.raw (.int .u8 y) :: u8s l) (i + 1) = _
        rw [AV.setL, if_neg (by simp [AV.size]), show i + 1 - (AV.raw (.int .u8 y)).size = i by simp [AV.size], ih i (by simpa using hi)]
        rfl
attribute [simp] getL_u8s
def hpL : List (Nat × Ob) → Hp
  | [], _ => none
  | (u, o) :: l, i => if i = u then some o else hpL l i
@[simp] theorem hpL_nil {i : Nat} : hpL [] i = none := rfl
@[simp] theorem hpL_cons {u i : Nat} {o : Ob} {l : List (Nat × Ob)} : hpL ((u, o) :: l) i = if i = u then some o else hpL l i := rfl
theorem hpL_mem : ∀ {l : List (Nat × Ob)} {i : Nat} {o : Ob}, hpL l i = some o → (i, o) ∈ l
  | (u, q) :: l, i, o, hh => by
    simp only [hpL] at hh
    split at hh
    · rename_i e; subst e; cases hh; simp
    · exact List.mem_cons_of_mem _ (hpL_mem hh)
@[simp] theorem bigIn_nil {g : Hp} : BigIn (hpL []) g := fun _ _ _ => rfl
theorem hpL_setH {u : Nat} {o : Ob} {l : List (Nat × Ob)} : hpL ((u, o) :: l) = setH (hpL l) u o := rfl
@[simp] theorem bigIn_small' {l : List (Nat × Ob)} {g : Hp} {u : Nat} {o : Ob} (hu : u < 100000) : BigIn (hpL ((u, o) :: l)) g ↔ BigIn (hpL l) g := bigIn_set (.inl hu)
@[simp] theorem bigIn_in' {l : List (Nat × Ob)} {g : Hp} {u : Nat} {o : Ob} (hu : ¬ g u = none) : BigIn (hpL ((u, o) :: l)) g ↔ BigIn (hpL l) g := bigIn_set (.inr hu)
@[simp] theorem renH_nil {a b : Nat} : renH (sw a b) (sw a b) (hpL []) = hpL [] := rfl
@[simp] theorem renH_cons {a b u : Nat} {o : Ob} {l : List (Nat × Ob)} : renH (sw a b) (sw a b) (hpL ((u, o) :: l)) = setH (renH (sw a b) (sw a b) (hpL l)) (sw a b u) (o.ren (sw a b)) := by rw [hpL_setH, renH_set]
theorem awp_inv {c : Code} {α : Type} (tmps : α → List (Nat × AV)) (heap : α → Hp) (ok : α → Prop) (dec : α → Nat) (a0 : α) (h0 : ok a0) (hl : Weak ⟨e, h⟩ ⟨envA (tmps a0), heap a0⟩)
    (round : ∀ a, ok a → AWP P nt c (Then (fun σ' => ∃ a', dec a' < dec a ∧ ok a' ∧ Weak σ' ⟨envA (tmps a'), heap a'⟩) Q) ⟨envA (tmps a), heap a⟩) : AWP P nt (.loop c) Q ⟨e, h⟩ := by
  refine awp_loop (fun m σ => ∃ a, dec a = m ∧ ok a ∧ Weak σ ⟨envA (tmps a), heap a⟩) (n := dec a0) ⟨a0, rfl, h0, hl⟩ ?_
  rintro n σ ⟨a, rfl, ha, hw⟩
  refine AWP.weak hw ((round a ha).mono ?_)
  intro ex σ' hq
  cases ex with
  | normal =>
    obtain ⟨a', h1, h2, h3⟩ := hq
    exact ⟨_, h1, a', rfl, h2, h3⟩
  | _ => exact hq
theorem weak_env {l : List (Nat × AV)} (hl : ∀ p ∈ l, e p.1 = p.2) (hh : h = h') : Weak ⟨e, h⟩ ⟨envA l, h'⟩ := Weak.env (σ := ⟨e, h⟩) (σ2 := ⟨envA l, h'⟩) (envA_weak hl) hh.symm
/-- Fewer objects. -/
theorem weak_sub {l : List (Nat × AV)} {m : List (Nat × Ob)} (hm : ∀ p ∈ m, h p.1 = some p.2 ∧ p.2.within (hpL m) = true) (hb : BigIn h (hpL m)) (hl : ∀ p ∈ l, e p.1 = p.2 ∧ p.2.within (hpL m) = true) : Weak ⟨e, h⟩ ⟨envA l, hpL m⟩ := by
  refine Weak.sub (fun id ob hid => hm _ (hpL_mem hid)) hb fun t => ?_
  rcases envA_weak (l := l) (fun p hp => (hl p hp).1) t with h1 | h1
  · exact .inl h1
  · have : ∀ {l : List (Nat × AV)}, (∀ p ∈ l, e p.1 = p.2 ∧ p.2.within (hpL m) = true) → envA l t = .any ∨ (envA l t).within (hpL m) = true := by
      intro l
      induction l with
      | nil => intro _; exact .inl rfl
      | cons p l ih =>
        intro hp
        obtain ⟨u, v⟩ := p
        simp only [envA]
        split
        · exact .inr (hp (u, v) (by simp)).2
        · exact ih fun q hq => hp q (by simp [hq])
    rcases this hl with h2 | h2
    · exact .inl h2
    · exact .inr ⟨h1, by rw [← h1]; exact h2⟩
/-- A new name for one object, and fewer objects. -/
theorem weak_ren {l : List (Nat × AV)} {m : List (Nat × Ob)} (a b : Nat) (ha : a < 100000) (hb' : b < 100000) (hm : ∀ p ∈ m, renH (sw a b) (sw a b) h p.1 = some p.2 ∧ p.2.within (hpL m) = true) (hb : BigIn (renH (sw a b) (sw a b) h) (hpL m)) (hl : ∀ p ∈ l, (e p.1).ren (sw a b) = p.2 ∧ p.2.within (hpL m) = true) : Weak ⟨e, h⟩ ⟨envA l, hpL m⟩ :=
  (Weak.ren (sw_sw a b) (sw_sw a b) (fun i hi => by unfold sw; rw [if_neg (by omega), if_neg (by omega)])).trans (weak_sub hm hb hl)
end Go.Proofs.Ytejeemhenoobjaa.Asl

namespace Go.Proofs.Ytejeemhenoobjaa.Asl
open Go Go.RowKit
set_option linter.unusedVariables false
set_option linter.unusedSimpArgs false
variable {P : Program} {nt : Nat} {e : Nat → AV} {h h' : Hp} {K : (Nat → AV) → Hp → Prop} {ops : Array Oper} {l : List Oper} {ty' : TypeId} {pos : String} {af : Array Edge} {dd : Option Tmp}

theorem wrap_u64 {x : Int} (h1 : 0 ≤ x) (h2 : x < 18446744073709551616) : IntKind.wrap .u64 x = x := by
  simp [IntKind.wrap, IntKind.bits, IntKind.signed]; omega
theorem wrap_i32 {x : Int} (h1 : -2147483648 ≤ x) (h2 : x < 2147483648) : IntKind.wrap .i32 x = x := by
  simp [IntKind.wrap, IntKind.bits, IntKind.signed]; omega
theorem wrap_u8' (x : Int) : IntKind.wrap .u8 x = x % 256 := by simp [IntKind.wrap, IntKind.bits, IntKind.signed]
theorem wrap_u64' (x : Int) : IntKind.wrap .u64 x = x % 18446744073709551616 := by simp [IntKind.wrap, IntKind.bits, IntKind.signed]
def andI (k : IntKind) (x y : Int) : Int := k.wrap ((BitVec.ofInt k.bits x) &&& (BitVec.ofInt k.bits y)).toNat
def orI (k : IntKind) (x y : Int) : Int := k.wrap ((BitVec.ofInt k.bits x) ||| (BitVec.ofInt k.bits y)).toNat
def shrI (k : IntKind) (x y : Int) : Int := x / 2 ^ (min y.toNat k.bits)
def shlI (k : IntKind) (x y : Int) : Int := k.wrap (x * 2 ^ (min y.toNat k.bits))
theorem mask_nat (m a : Nat) : a &&& (2 ^ m - 1) = a % 2 ^ m := Nat.and_two_pow_sub_one_eq_mod a m
theorem andI_u64 (x : Int) (m : Nat) (hm : m ≤ 64) : andI .u64 x (2 ^ m - 1 : Nat) = x % (2 ^ m : Nat) := by
  have hp : (2 : Nat) ^ m ≤ 2 ^ 64 := Nat.pow_le_pow_right (by decide) hm
  have h1 : 0 < 2 ^ m := Nat.two_pow_pos m
  unfold andI
  rw [BitVec.toNat_and, BitVec.toNat_ofInt, BitVec.toNat_ofInt]
  simp only [IntKind.bits]
  have e : (((2 ^ m - 1 : Nat) : Int) % ((2 ^ 64 : Nat) : Int)).toNat = 2 ^ m - 1 := by
    rw [Int.emod_eq_of_lt (by omega) (by omega)]; omega
  rw [e, mask_nat, wrap_u64 (by omega) (by have := Nat.mod_lt (x % ((2 ^ 64 : Nat) : Int)).toNat h1; omega)]
  rw [Int.natCast_emod, Int.toNat_of_nonneg (Int.emod_nonneg _ (by decide))]
  exact Int.emod_emod_of_dvd _ (Int.natCast_dvd_natCast.2 (Nat.pow_dvd_pow 2 hm))
@[simp] theorem and15_u64 (x : Int) : andI .u64 x 15 = x % 16 := andI_u64 x 4 (by decide)
@[simp] theorem and1_u64 (x : Int) : andI .u64 x 1 = x % 2 := andI_u64 x 1 (by decide)
theorem andI_u8 (x : Int) (m : Nat) (hm : m ≤ 8) : andI .u8 x (2 ^ m - 1 : Nat) = x % (2 ^ m : Nat) := by
  have hp : (2 : Nat) ^ m ≤ 2 ^ 8 := Nat.pow_le_pow_right (by decide) hm
  have h1 : 0 < 2 ^ m := Nat.two_pow_pos m
  unfold andI
  rw [BitVec.toNat_and, BitVec.toNat_ofInt, BitVec.toNat_ofInt]
  simp only [IntKind.bits]
  have e : (((2 ^ m - 1 : Nat) : Int) % ((2 ^ 8 : Nat) : Int)).toNat = 2 ^ m - 1 := by
    rw [Int.emod_eq_of_lt (by omega) (by omega)]; omega
  rw [e, mask_nat, wrap_u8 (by omega) (by have := Nat.mod_lt (x % ((2 ^ 8 : Nat) : Int)).toNat h1; omega)]
  rw [Int.natCast_emod, Int.toNat_of_nonneg (Int.emod_nonneg _ (by decide))]
  exact Int.emod_emod_of_dvd _ (Int.natCast_dvd_natCast.2 (Nat.pow_dvd_pow 2 hm))
@[simp] theorem and127_u8 (x : Int) : andI .u8 x 127 = x % 128 := andI_u8 x 7 (by decide)
set_option maxRecDepth 100000 in
theorem or128_nat : ∀ a, a < 256 → a ||| 128 = a % 128 + 128 := by decide
@[simp] theorem or128_u8 (x : Int) : orI .u8 x 128 = x % 128 + 128 := by
  unfold orI
  rw [BitVec.toNat_or, BitVec.toNat_ofInt, BitVec.toNat_ofInt]
  simp only [IntKind.bits]
  have h1 := Int.emod_lt_of_pos x (b := ((2 ^ 8 : Nat) : Int)) (by decide)
  have h0 := Int.emod_nonneg x (b := ((2 ^ 8 : Nat) : Int)) (by decide)
  rw [show ((128 : Int) % ((2 ^ 8 : Nat) : Int)).toNat = 128 by decide, or128_nat _ (by omega), wrap_u8 (by omega) (by omega)]
  have : ((2 ^ 8 : Nat) : Int) = 256 := rfl
  omega
/-- Bits that do not meet. -/
theorem orI_add (x y : Int) (m : Nat) (hx : 0 ≤ x) (hy : 0 ≤ y) (hym : y < (2 ^ m : Nat)) (hd : x % (2 ^ m : Nat) = 0) (hb : x + y < 18446744073709551616) : orI .u64 x y = x + y := by
  unfold orI
  rw [BitVec.toNat_or, BitVec.toNat_ofInt, BitVec.toNat_ofInt]
  simp only [IntKind.bits]
  have e : ((2 ^ 64 : Nat) : Int) = 18446744073709551616 := rfl
  rw [Int.emod_eq_of_lt hx (by omega), Int.emod_eq_of_lt hy (by omega)]
  obtain ⟨a, rfl⟩ := Int.eq_ofNat_of_zero_le hx
  obtain ⟨b, rfl⟩ := Int.eq_ofNat_of_zero_le hy
  have hb' : b < 2 ^ m := by omega
  have ha : a % 2 ^ m = 0 := by
    have : ((a % 2 ^ m : Nat) : Int) = 0 := by rw [Int.natCast_emod]; exact hd
    omega
  obtain ⟨q, hq⟩ := Nat.dvd_of_mod_eq_zero ha
  have : a ||| b = a + b := by rw [hq]; exact (Nat.two_pow_add_eq_or_of_lt hb' q).symm
  show IntKind.wrap .u64 ((a ||| b : Nat) : Int) = _
  rw [this, wrap_u64 (by omega) (by omega)]; omega

theorem w_and {t ty : TypeId} {x y : Operand} {k : IntKind} {X Y w : Int} (hx : Is (evE e x) (.raw (.int k X))) (hy : Is (evE e y) (.raw (.int k Y))) (hw : Is (andI k X Y) w) (hr : RunK P ops l (putE e dd (.raw (.int k w))) h K) : RunK P ops (⟨dd, .binOp .and t x y ty, ty', pos, af, none⟩ :: l) e h K :=
  w_bin hx hy (by rw [← hw]; simp [IsO, binV, andI]) hr
theorem w_or {t ty : TypeId} {x y : Operand} {k : IntKind} {X Y w : Int} (hx : Is (evE e x) (.raw (.int k X))) (hy : Is (evE e y) (.raw (.int k Y))) (hw : Is (orI k X Y) w) (hr : RunK P ops l (putE e dd (.raw (.int k w))) h K) : RunK P ops (⟨dd, .binOp .or t x y ty, ty', pos, af, none⟩ :: l) e h K :=
  w_bin hx hy (by rw [← hw]; simp [IsO, binV, orI]) hr
theorem w_shr {t ty : TypeId} {x y : Operand} {k k' : IntKind} {X Y w : Int} (hx : Is (evE e x) (.raw (.int k X))) (hy : Is (evE e y) (.raw (.int k' Y))) (h0 : 0 ≤ Y) (hw : Is (shrI k X Y) w) (hr : RunK P ops l (putE e dd (.raw (.int k w))) h K) : RunK P ops (⟨dd, .binOp .shr t x y ty, ty', pos, af, none⟩ :: l) e h K :=
  w_bin hx hy (by
    rw [← hw]
    show binV .shr (.int k X) (.int k' Y) = _
    simp only [binV]
    rw [if_neg (by omega)]
    unfold shrI
    rw [Int.fdiv_eq_ediv_of_nonneg _ (Int.le_of_lt (Int.pow_pos (by decide)))]) hr
theorem w_shl {t ty : TypeId} {x y : Operand} {k k' : IntKind} {X Y w : Int} (hx : Is (evE e x) (.raw (.int k X))) (hy : Is (evE e y) (.raw (.int k' Y))) (h0 : 0 ≤ Y) (hw : Is (shlI k X Y) w) (hr : RunK P ops l (putE e dd (.raw (.int k w))) h K) : RunK P ops (⟨dd, .binOp .shl t x y ty, ty', pos, af, none⟩ :: l) e h K :=
  w_bin hx hy (by
    rw [← hw]
    show binV .shl (.int k X) (.int k' Y) = _
    simp only [binV]
    rw [if_neg (by omega)]
    rfl) hr
end Go.Proofs.Ytejeemhenoobjaa.Asl

namespace Go.Proofs.Ytejeemhenoobjaa.Asl
open Go Go.RowKit
set_option linter.unusedVariables false
set_option linter.unusedSimpArgs false
variable {P : Program} {nt : Nat} {C : Cx} {σ : St} {Q : Exit → St → Prop} {e : Nat → AV} {h h' : Hp} {K : (Nat → AV) → Hp → Prop} {ops : Array Oper} {l : List Oper} {ty' : TypeId} {pos : String} {af : Array Edge} {dd : Option Tmp}
def orow (id sz : Nat) (l : List AV) : AV := if l = [] then .raw (.slice none 0 0) else .ow id sz 0 l.length
def ohp (id sz : Nat) (l : List AV) (h : Hp) : Hp := fun k => if k = id then (if l = [] then none else some (.arr sz l)) else h k
def killH (id : Nat) (l : List AV) (h : Hp) : Hp := fun k => if k = id then (if l = [] then h k else some .dead) else h k
@[simp] theorem ohp_at {id sz k : Nat} {l : List AV} {h : Hp} : ohp id sz l h k = if k = id then (if l = [] then none else some (.arr sz l)) else h k := rfl
@[simp] theorem killH_at {id k : Nat} {l : List AV} {h : Hp} : killH id l h k = if k = id then (if l = [] then h k else some .dead) else h k := rfl
@[simp] theorem orow_ne {id sz : Nat} {l : List AV} (hl : ¬ l = []) : orow id sz l = .ow id sz 0 l.length := if_neg hl
@[simp] theorem orow_nil {id sz : Nat} : orow id sz [] = .raw (.slice none 0 0) := rfl
theorem ohp_ne {id sz : Nat} {l : List AV} {m : List (Nat × Ob)} (hl : l ≠ []) : ohp id sz l (hpL m) = hpL ((id, .arr sz l) :: m) := by
  funext k; simp only [ohp, hpL]; by_cases hk : k = id
  · rw [if_pos hk, if_pos hk, if_neg hl]
  · rw [if_neg hk, if_neg hk]
theorem ohp_nil {id sz : Nat} {m : List (Nat × Ob)} (hm : hpL m id = none) : ohp id sz [] (hpL m) = hpL m := by
  funext k; simp only [ohp]; split
  · rename_i hk; rw [hk, hm]; rfl
  · rfl
@[simp] theorem rowOf_orow {id sz : Nat} {l : List AV} {h : Hp} (hi : ¬ l = [] → h id = some (.arr sz l)) : rowOf h sz (orow id sz l) = some l := by
  unfold orow
  split
  · rename_i hl; subst hl; rfl
  · rename_i hl; simp [rowOf, hi hl]
@[simp] theorem bigIn_ohp {id sz : Nat} {xs : List AV} {h g : Hp} (hu : id < 100000) : BigIn (ohp id sz xs h) g ↔ BigIn h g := by
  have key : ∀ k, 100000 ≤ k → ohp id sz xs h k = h k := fun k hk => by simp only [ohp]; rw [if_neg (by omega)]
  exact ⟨fun hh k h1 h2 => by rw [← key k h1]; exact hh k h1 h2, fun hh k h1 h2 => by rw [key k h1]; exact hh k h1 h2⟩
@[simp] theorem bigIn_killH {id : Nat} {xs : List AV} {h g : Hp} (hu : id < 100000) : BigIn (killH id xs h) g ↔ BigIn h g := by
  have key : ∀ k, 100000 ≤ k → killH id xs h k = h k := fun k hk => by simp only [killH]; rw [if_neg (by omega)]
  exact ⟨fun hh k h1 h2 => by rw [← key k h1]; exact hh k h1 h2, fun hh k h1 h2 => by rw [key k h1]; exact hh k h1 h2⟩
@[simp] theorem renH_at {a b i : Nat} {h : Hp} : renH (sw a b) (sw a b) h i = (h (sw a b i)).map (Ob.ren (sw a b)) := rfl
theorem w_appendX {x y : Operand} {t u el sz b q id : Nat} {xs ys : List AV} {Y : AV} {m : Nat} (ht : IsO (rowI P t) (el, sz, b)) (hx : Is (evE e x) (orow id sz xs)) (hi : ¬ xs = [] → h id = some (.arr sz xs)) (hY : Is (evE e y) Y) (hy : IsO (srcOf P h sz u Y) ys) (hq : Is (h q) none) (hne : ys ≠ [])
    (h1 : (xs.length + ys.length) * b ≤ 140737488355328) (h2 : xs.length + ys.length ≤ 140737488355328) (hm : Is (xs.length + ys.length) m) (hr : RunK P ops l (putE e (some q) (.ow q sz 0 m)) (setH (killH id xs h) q (.arr sz (xs ++ ys))) K) : RunK P ops (⟨some q, .call { callee := .builtin .append, args := #[x, y], argTypes := #[t, u] }, ty', pos, af, none⟩ :: l) e h K := by
  by_cases hxs : xs = []
  · subst hxs
    have e1 : killH id ([] : List AV) h = h := by funext k; simp only [killH]; split <;> rfl
    rw [e1] at hr
    refine w_append0 ht hx rfl hY hy hq hne (by simpa using h1) (by simpa using h2) ?_ hr
    simpa using hm
  · have e1 : killH id xs h = setH h id .dead := by funext k; simp only [killH, setH]; rw [if_neg hxs]
    rw [e1] at hr
    rw [orow_ne hxs] at hx
    exact w_append ht hx (hi hxs) hY hy hq (Nat.le_refl _) h1 h2 (by simp [Is]) hm hr
/-- A variable that was made, under another name. -/
theorem CallD.ownB {f : FuncId} {xs : List AV} {x : AV} (hn : AV.noids xs = true) (hy : x.noid = true) (q : Nat) (hc : CallD P f xs noHeap (.ptr 99999 0) (setH noHeap 99999 (.box x))) : CallD P f xs noHeap (.ptr q 0) (setH noHeap q (.box x)) := by
  have := hc.sw 99999 q
  rw [noid_ren.2 _ hn, renH_no, renH_set, renH_no] at this
  simp only [AV.ren, Ob.ren, noid_ren.1 _ hy, sw, if_true] at this
  exact this
/-- A call that hands back a variable that it made. -/
theorem w_callB {args : Array Operand} {ats : Array TypeId} {x : Operand} {f : FuncId} {xs ys : List AV} {g : Hp} {q : Nat} {X : AV} (hp : Is (plainCall P ⟨.value x, args, ats⟩) false) (ha : IsO (argsOf (evE e) x args) (f, xs)) (hf : Is (isFn P f) true) (hfr : Is (frzA h (AV.rowsOfs xs)) g) (hs : Is (AV.deeps g xs) ys) (hn : Is (AV.noids ys) true) (hq : Is (g q) none)
    (hcall : CallD P f ys noHeap (.ptr 99999 0) (setH noHeap 99999 (.box X))) (hz : Is X.noid true) (hr : RunK P ops l (putE e (some q) (.ptr q 0)) (setH g q (.box X)) K) : RunK P ops (⟨some q, .call ⟨.value x, args, ats⟩, ty', pos, af, none⟩ :: l) e h K :=
  w_callS (hs := noHeap) (hs' := setH noHeap q (.box X)) hp ha hf hfr hs (fun id ob h => by cases h) (noid_within.2 _ hn) (hcall.ownB hn hz q) (fun id hi => by
    by_cases e : id = q
    · subst e; exact .inr hq
    · simp [setH, e, noHeap] at hi) backH_new touch_new hr
/-- A variable that was made, handed on. -/
theorem Fin.box {k : Nat} {x : AV} (hk : IsO (h k) (.box x)) (hn : Is x.noid true) (hlt : k < 100000) (hb : BigIn h noHeap) : Fin h (.ptr k 0) (setH noHeap 99999 (.box x)) (.ptr 99999 0) := by
  have h1 : Fin h (.ptr k 0) (setH noHeap k (.box x)) (.ptr k 0) := by
    refine Fin.sub (fun id ob hid => ?_) (fun id h1 h2 => ?_) ?_
    · simp only [setH_at, noHeap_at] at hid
      split at hid
      · rename_i e; subst e; cases hid
        exact ⟨hk, (noid_withins _).1 _ hn⟩
      · cases hid
    · exact hb id h1 rfl
    · show (AV.within _ (.ptr k 0)) = true
      simp [AV.within, setH]
  refine h1.trans ?_
  have h2 := Weak.ren (e := E1 (.ptr k 0)) (h := setH noHeap k (.box x)) (sw_sw k 99999) (sw_sw k 99999) (fun i hi => by unfold sw; rw [if_neg (by omega), if_neg (by omega)])
  rw [renH_set, renH_no] at h2
  have e1 : (fun t => (E1 (.ptr k 0) t).ren (sw k 99999)) = E1 (.ptr 99999 0) := by
    funext t
    unfold E1
    split
    · simp [AV.ren, sw]
    · rfl
  have e2 : (Ob.box x).ren (sw k 99999) = .box x := by simp [Ob.ren, noid_ren.1 _ hn]
  rw [e1, e2] at h2
  simp only [sw, if_true] at h2
  exact h2
/-- What came in stays as it is told; all else is dropped. -/
theorem Fin.keep {X : AV} {r : AV} (hk : IsO (h 100000) (.box X)) (hX : Is X.noid true) (hr : Is r.noid true) (hb : BigIn h (setH noHeap 100000 (.box X))) : Fin h r (setH noHeap 100000 (.box X)) r := by
  refine Fin.sub (fun id ob hid => ?_) hb ((noid_withins _).1 _ hr)
  simp only [setH_at, noHeap_at] at hid
  split at hid
  · rename_i e; subst e; cases hid
    exact ⟨hk, (noid_withins _).1 _ hX⟩
  · cases hid
/-! A state that is told with less, among rows that may be nil. -/
def SubH (h g h' : Hp) : Prop := ∀ id ob, g id = some ob → h id = some ob ∧ ob.within h' = true
theorem sub_hpL {m : List (Nat × Ob)} (hm : ∀ p ∈ m, h p.1 = some p.2 ∧ p.2.within h' = true) : SubH h (hpL m) h' := fun id ob hid => hm _ (hpL_mem hid)
theorem sub_ohp {id sz : Nat} {xs : List AV} {g : Hp} (hx : ¬ xs = [] → h id = some (.arr sz xs)) (hn : AV.withins h' xs = true) (hs : SubH h g h') : SubH h (ohp id sz xs g) h' := fun k ob hk => by
  simp only [ohp] at hk
  split at hk
  · split at hk
    · cases hk
    · rename_i e1 e2; subst e1; cases hk
      exact ⟨hx e2, hn⟩
  · exact hs k ob hk
@[simp] theorem orow_within {id sz : Nat} {xs : List AV} (hi : ¬ xs = [] → (h id).isSome = true) : (orow id sz xs).within h = true := by
  unfold orow
  split
  · rfl
  · rename_i hx; exact hi hx
@[simp] theorem orow_noid_nil {id sz : Nat} : (orow id sz []).noid = true := rfl
@[simp] theorem orow_ren {id sz a b : Nat} {xs : List AV} : (orow id sz xs).ren (sw a b) = orow (sw a b id) sz xs := by
  unfold orow
  split <;> simp
@[simp] theorem bigIn_tgt {id sz : Nat} {xs : List AV} {h g : Hp} (hu : id < 100000) : BigIn h (ohp id sz xs g) ↔ BigIn h g := by
  have key : ∀ k, 100000 ≤ k → ohp id sz xs g k = g k := fun k hk => by simp only [ohp]; rw [if_neg (by omega)]
  exact ⟨fun hh k h1 h2 => hh k h1 (by rw [key k h1]; exact h2), fun hh k h1 h2 => hh k h1 (by rw [← key k h1]; exact h2)⟩
@[simp] theorem bigIn_renH {a b : Nat} {h g : Hp} (ha : a < 100000) (hb : b < 100000) : BigIn (renH (sw a b) (sw a b) h) g ↔ BigIn h g := by
  have key : ∀ k, 100000 ≤ k → (renH (sw a b) (sw a b) h k = none ↔ h k = none) := fun k hk => by
    simp only [renH, sw]
    rw [if_neg (by omega), if_neg (by omega), Option.map_eq_none_iff]
  exact ⟨fun hh k h1 h2 => (key k h1).1 (hh k h1 h2), fun hh k h1 h2 => (key k h1).2 (hh k h1 h2)⟩
theorem weak_o {l : List (Nat × AV)} (hs : SubH h h' h') (hb : BigIn h h') (hl : ∀ p ∈ l, e p.1 = p.2 ∧ p.2.within h' = true) : Weak ⟨e, h⟩ ⟨envA l, h'⟩ := by
  refine Weak.sub hs hb fun t => ?_
  rcases envA_weak (l := l) (fun p hp => (hl p hp).1) t with h1 | h1
  · exact .inl h1
  · have : ∀ {l : List (Nat × AV)}, (∀ p ∈ l, e p.1 = p.2 ∧ p.2.within h' = true) → envA l t = .any ∨ (envA l t).within h' = true := by
      intro l
      induction l with
      | nil => intro _; exact .inl rfl
      | cons p l ih =>
        intro hp
        obtain ⟨u, v⟩ := p
        simp only [envA]
        split
        · exact .inr (hp (u, v) (by simp)).2
        · exact ih fun q hq => hp q (by simp [hq])
    rcases this hl with h2 | h2
    · exact .inl h2
    · exact .inr ⟨h1, by rw [← h1]; exact h2⟩
theorem weak_or {l : List (Nat × AV)} (a b : Nat) (ha : a < 100000) (hb' : b < 100000) (hs : SubH (renH (sw a b) (sw a b) h) h' h') (hb : BigIn (renH (sw a b) (sw a b) h) h') (hl : ∀ p ∈ l, (e p.1).ren (sw a b) = p.2 ∧ p.2.within h' = true) : Weak ⟨e, h⟩ ⟨envA l, h'⟩ :=
  (Weak.ren (sw_sw a b) (sw_sw a b) (fun i hi => by unfold sw; rw [if_neg (by omega), if_neg (by omega)])).trans (weak_o hs hb hl)
theorem weak_or2 {l : List (Nat × AV)} (a b c d : Nat) (ha : a < 100000) (hb' : b < 100000) (hc : c < 100000) (hd : d < 100000) (hs : SubH (renH (sw c d) (sw c d) (renH (sw a b) (sw a b) h)) h' h') (hb : BigIn (renH (sw c d) (sw c d) (renH (sw a b) (sw a b) h)) h') (hl : ∀ p ∈ l, ((e p.1).ren (sw a b)).ren (sw c d) = p.2 ∧ p.2.within h' = true) : Weak ⟨e, h⟩ ⟨envA l, h'⟩ :=
  (Weak.ren (sw_sw a b) (sw_sw a b) (fun i hi => by unfold sw; rw [if_neg (by omega), if_neg (by omega)])).trans (weak_or c d hc hd hs hb hl)
attribute [simp] nums_eq AV.flat AV.flats
@[simp] theorem u8s_nil : u8s [] = [] := rfl
@[simp] theorem u8s_eq_nil {l : List Int} : u8s l = [] ↔ l = [] := by simp [u8s]
@[simp] theorem take_snoc2 {α : Type} (l : List α) (x y : α) : List.take (l.length + 2) (l ++ [x, y]) = l ++ [x, y] := List.take_of_length_le (by simp)
@[simp] theorem take_snocm {α β : Type} (l : List α) (f : α → β) (x : β) : List.take (l.length + 1) (List.map f l ++ [x]) = List.map f l ++ [x] := List.take_of_length_le (by simp)
@[simp] theorem take_snoc2m {α β : Type} (l : List α) (f : α → β) (x y : β) : List.take (l.length + 2) (List.map f l ++ [x, y]) = List.map f l ++ [x, y] := List.take_of_length_le (by simp)
@[simp] theorem strOf_nil : Asl.strOf [] = some [] := rfl
@[simp] theorem strOf_cons (n : Int) (l : List AV) : Asl.strOf (.raw (.int .u8 n) :: l) = (Asl.strOf l).map fun r => UInt8.ofNat n.toNat :: r := by
  simp only [Asl.strOf, byteOf]
  cases Asl.strOf l <;> rfl
theorem w_remU {t ty : TypeId} {x y : Operand} {k : IntKind} {X Y : Int} (hx : Is (evE e x) (.raw (.int k X))) (hy : Is (evE e y) (.raw (.int k Y))) (h0 : 0 ≤ X) (h1 : 0 < Y) (hr : RunK P ops l (putE e dd (.raw (.int k (X % Y)))) h K) : RunK P ops (⟨dd, .binOp .rem t x y ty, ty', pos, af, none⟩ :: l) e h K :=
  w_bin hx hy (by
    show binV .rem (.int k X) (.int k Y) = some (.int k (X % Y))
    simp [binV, Int.tmod_eq_emod_of_nonneg h0, Int.ne_of_gt h1]) hr
theorem w_quoU {t ty : TypeId} {x y : Operand} {k : IntKind} {X Y w : Int} (hx : Is (evE e x) (.raw (.int k X))) (hy : Is (evE e y) (.raw (.int k Y))) (h0 : 0 ≤ X) (h1 : 0 < Y) (hw : Is (k.wrap (X / Y)) w) (hr : RunK P ops l (putE e dd (.raw (.int k w))) h K) : RunK P ops (⟨dd, .binOp .quo t x y ty, ty', pos, af, none⟩ :: l) e h K :=
  w_bin hx hy (by
    show binV .quo (.int k X) (.int k Y) = some (.int k w)
    rw [← hw]
    simp [binV, Int.tdiv_eq_ediv_of_nonneg h0, Int.ne_of_gt h1]) hr
theorem w_gU {op : Op} {j : Nat} {w : Bool} {t : Tmp} (ht : (ops[j]?).bind (·.dst) = some t) (he : Is (e t) (.raw undef)) (hr : RunK P ops l (putE e dd (.raw undef)) h K) : RunK P ops (⟨dd, op, ty', pos, af, some (j, w)⟩ :: l) e h K :=
  run_gF rfl ht he (by simp [undef]) hr
@[simp] theorem ite_min (x y : Int) : (if y < x then y else x) = min x y := by split <;> omega
@[simp] theorem ite_max (x y : Int) : (if x < y then y else x) = max x y := by split <;> omega
theorem w_minC {args : Array Operand} {ats : Array TypeId} {X : AV} (hx : IsO (minV (args.toList.map (evE e))) X) (hr : RunK P ops l (putE e dd X) h K) : RunK P ops (⟨dd, .call ⟨.builtin .min, args, ats⟩, ty', pos, af, none⟩ :: l) e h K := w_min (c := ⟨.builtin .min, args, ats⟩) hx hr
@[simp] theorem toNat_add_nat (a i : Nat) : ((a : Int) + (i : Int)).toNat = a + i := by omega
/-! Ways among a region's operations, by bits. -/
section
variable {P : Program} {nt : Nat} {Q : Exit → St → Prop} {e : Nat → AV} {h : Hp}
def direct (ops : Array Oper) (j : Nat) : Nat := match ops[j]? with
  | none => 0
  | some o => o.after.toList.foldr (fun e acc => bif Region.binds .any e then (1 <<< e.on) ||| acc else acc) 0
def closeM (ops : Array Oper) : Nat → Nat → Nat
  | 0, m => m
  | j + 1, m => closeM ops j (bif m.testBit j then m ||| direct ops j else m)
def okRegM (S : Sys P) (nt : Nat) (ops : Array Oper) : Bool :=
  ops.all (fun o => o.dst.all (· < nt) && (match o.op with | .select .. => false | _ => true)) &&
  (List.range ops.size).all fun i => match ops[i]? with
    | none => true
    | some x => x.after.all (fun e => !Region.binds .any e || decide (e.on < i)) &&
      (List.range i).all fun y => (closeM ops i (direct ops i)).testBit y || match ops[y]? with
        | none => true
        | some o => indep S ops o x
theorem anc_mono {ops : Array Oper} : ∀ (k i y : Nat), y ∈ anc ops k i → y ∈ anc ops (k + 1) i
  | 0, i, y, h => by simp [anc] at h
  | k + 1, i, y, h => by
    simp only [anc] at h ⊢
    cases ho : ops[i]? with
    | none => rw [ho] at h; simp at h
    | some o =>
      rw [ho] at h
      simp only [List.mem_flatMap] at h ⊢
      obtain ⟨j, hj, hy⟩ := h
      refine ⟨j, hj, ?_⟩
      rcases List.mem_cons.1 hy with rfl | hy
      · exact List.mem_cons_self
      · exact List.mem_cons_of_mem _ (by have := anc_mono k j y hy; simpa only [anc] using this)
theorem anc_up {ops : Array Oper} {k k' i y : Nat} (hk : k ≤ k') (h : y ∈ anc ops k i) : y ∈ anc ops k' i := by
  obtain ⟨d, rfl⟩ := Nat.le.dest hk
  induction d with
  | zero => exact h
  | succ d ih => exact anc_mono _ _ _ (ih (by omega))
theorem direct_bit {ops : Array Oper} {j z : Nat} (h : (direct ops j).testBit z = true) : ∃ o, ops[j]? = some o ∧ ∃ e ∈ o.after, Region.binds .any e = true ∧ e.on = z := by
  unfold direct at h
  cases ho : ops[j]? with
  | none => rw [ho] at h; simp at h
  | some o =>
    rw [ho] at h
    refine ⟨o, rfl, ?_⟩
    have : ∀ l : List Edge, (l.foldr (fun e acc => bif Region.binds .any e then (1 <<< e.on) ||| acc else acc) 0).testBit z = true → ∃ e ∈ l, Region.binds .any e = true ∧ e.on = z := by
      intro l
      induction l with
      | nil => intro h; simp at h
      | cons e l ih =>
        intro h
        rw [List.foldr_cons] at h
        cases hb : Region.binds .any e with
        | false =>
          rw [hb] at h
          obtain ⟨e', h1, h2⟩ := ih h
          exact ⟨e', List.mem_cons_of_mem _ h1, h2⟩
        | true =>
          rw [hb] at h
          simp only [cond_true, Nat.testBit_or, Bool.or_eq_true] at h
          rcases h with h | h
          · refine ⟨e, List.mem_cons_self, hb, ?_⟩
            rw [Nat.one_shiftLeft, Nat.testBit_two_pow] at h
            simpa using h
          · obtain ⟨e', h1, h2⟩ := ih h
            exact ⟨e', List.mem_cons_of_mem _ h1, h2⟩
    obtain ⟨e, h1, h2⟩ := this _ h
    exact ⟨e, Array.mem_toList_iff.1 h1, h2⟩
theorem anc_direct {ops : Array Oper} {k j z : Nat} (h : (direct ops j).testBit z = true) : z ∈ anc ops (k + 1) j := by
  obtain ⟨o, ho, e, he, hb, rfl⟩ := direct_bit h
  simp only [anc, ho, List.mem_flatMap]
  exact ⟨e.on, List.mem_filterMap.2 ⟨e, Array.mem_toList_iff.2 he, by simp [hb]⟩, List.mem_cons_self⟩
theorem anc_step {ops : Array Oper} {y z : Nat} (hz : (direct ops y).testBit z = true) : ∀ (k i : Nat), y ∈ anc ops k i → z ∈ anc ops (k + 1) i
  | 0, i, h => by simp [anc] at h
  | k + 1, i, h => by
    rw [anc] at h ⊢
    cases ho : ops[i]? with
    | none => rw [ho] at h; simp at h
    | some o =>
      rw [ho] at h
      simp only [List.mem_flatMap] at h ⊢
      obtain ⟨j, hj, hy⟩ := h
      refine ⟨j, hj, List.mem_cons_of_mem _ ?_⟩
      rcases List.mem_cons.1 hy with rfl | hy
      · exact anc_direct hz
      · exact anc_step hz k j hy
theorem closeM_anc {ops : Array Oper} {i : Nat} (hd : ∀ j o, ops[j]? = some o → ∀ e ∈ o.after, Region.binds .any e = true → e.on < j) : ∀ (n m : Nat), (∀ y, m.testBit y = true → y < i ∧ y ∈ anc ops (i - y) i) → ∀ y, (closeM ops n m).testBit y = true → y < i ∧ y ∈ anc ops (i - y) i
  | 0, m, hm, y, h => hm y h
  | n + 1, m, hm, y, h => by
    rw [closeM] at h
    refine closeM_anc hd n _ (fun z hz => ?_) y h
    cases hb : m.testBit n with
    | false => rw [hb] at hz; exact hm z hz
    | true =>
      rw [hb] at hz
      simp only [cond_true, Nat.testBit_or, Bool.or_eq_true] at hz
      rcases hz with hz | hz
      · exact hm z hz
      · obtain ⟨h1, h2⟩ := hm n hb
        obtain ⟨o, ho, e, he, hbe, hez⟩ := direct_bit hz
        have hlt := hd n o ho e he hbe
        exact ⟨by omega, anc_up (k := i - n + 1) (by omega) (anc_step hz _ _ h2)⟩
theorem okReg_of {S : Sys P} {ops : Array Oper} (h : okRegM S nt ops = true) : okRegion S nt ops ops.size = true := by
  unfold okRegM at h
  unfold okRegion
  rw [Bool.and_eq_true] at h ⊢
  refine ⟨h.1, ?_⟩
  have h2 := h.2
  rw [List.all_eq_true] at h2 ⊢
  have hd : ∀ j o, ops[j]? = some o → ∀ e ∈ o.after, Region.binds .any e = true → e.on < j := by
    intro j o ho e he hb
    have hj := (Array.getElem?_eq_some_iff.1 ho).1
    have := h2 j (List.mem_range.2 hj)
    rw [ho] at this
    simp only [Bool.and_eq_true] at this
    have := Array.all_eq_true_iff_forall_mem.1 this.1 e he
    rw [hb] at this
    simpa using this
  intro i hi
  have hil := List.mem_range.1 hi
  have h3 := h2 i hi
  cases ho : ops[i]? with
  | none => rfl
  | some x =>
    rw [ho] at h3
    simp only [Bool.and_eq_true] at h3 ⊢
    refine ⟨h3.1, ?_⟩
    have h4 := h3.2
    rw [List.all_eq_true] at h4 ⊢
    intro y hy
    have h5 := h4 y hy
    rw [Bool.or_eq_true] at h5 ⊢
    rcases h5 with h5 | h5
    · left
      obtain ⟨_, h6⟩ := closeM_anc hd i _ (fun z hz => by
        obtain ⟨o, ho', e, he, hbe, hez⟩ := direct_bit hz
        have := hd i o ho' e he hbe
        exact ⟨by omega, anc_up (k := 1) (by omega) (anc_direct (k := 0) hz)⟩) y h5
      rw [List.contains_iff_mem]
      exact anc_up (by omega) h6
    · exact .inr h5
theorem awp_regAM {id : Nat} {ls : List Oper} (an : List (Tmp × Option Nat)) (hm : P.follows .mixedOrders = true) (hok : okRegM (sysA P (annL an)) nt ls.toArray = true) (honce : once ls.toArray = true)
    (hh : ∀ K : (Nat → AV) → Hp → Prop, (∀ e h, (∀ p ∈ an, (e p.1).top = p.2) → Q .normal ⟨e, h⟩ → K e h) → RunK P ls.toArray ls e h K) : AWP P nt (.region id ls.toArray true) Q ⟨e, h⟩ :=
  awp_regAL an _ hm (okReg_of hok) honce hh
/-! Drawn regions in which calls act at some variables, and others are read. -/
def opTags (an : Tmp → Option (Option Nat)) : List Operand → Option (List (Option Nat))
  | [] => some []
  | .tmp t :: l => match an t, opTags an l with
    | some z, some m => some (z :: m)
    | _, _ => none
  | .const _ :: l => opTags an l
  | _ => none
def tagOk (an : Tmp → Option (Option Nat)) (ρ : Operand → AV) (o : Oper) : Prop := (∀ t z, Operand.tmp t ∈ o.op.operands → an t = some z → (ρ (.tmp t)).tagP = some z) ∧ (∀ v, Operand.const v ∈ o.op.operands → ρ (.const v) = .raw v) ∧ ∀ f, Operand.func f ∈ o.op.operands → ρ (.func f) = .raw (.func (.func f) #[] #[])
def sepC (P : Program) (an : Tmp → Option (Option Nat)) (y x : Oper) : Bool := cls P x == 1 && match y.op with
  | .call c => match c.callee with
    | .value (.func _) => cls P y == 3 && match opTags an c.args.toList, opTags an x.op.operands.toList with
      | some ps, some qs => qs.all fun q => match q with
        | none => true
        | some id => !ps.contains (some id) && y.dst != some id
      | _, _ => false
    | _ => false
  | .store _ (.tmp a) _ => match an a, opTags an x.op.operands.toList with
    | some (some p), some qs => qs.all fun q => q != some p
    | _, _ => false
  | _ => false
theorem tag_top {x : AV} {z : Option Nat} (h : x.tagP = some z) : x.top = z := by
  cases x <;> simp only [AV.tagP] at h <;> first | (cases h; rfl) | (cases h) | skip
  all_goals
    split at h
    · cases h; rfl
    · cases h
theorem rowOf_top {g h : Hp} {sz : Nat} {X : AV} (hh : ∀ id, X.top = some id → g id = h id) : rowOf g sz X = rowOf h sz X := by
  cases X <;> simp only [rowOf] <;> first | rfl | (rw [hh _ rfl])
theorem ev_tags {an : Tmp → Option (Option Nat)} {ρ : Operand → AV} {o : Oper} (ht : tagOk an ρ o) : ∀ (l : List Operand) (zs : List (Option Nat)), opTags an l = some zs → (∀ x ∈ l, x ∈ o.op.operands) → ∀ x ∈ l, ∃ z, (ρ x).tagP = some z ∧ (z = none ∨ z ∈ zs)
  | [], _, _, _, x, hx => by cases hx
  | .tmp t :: l, zs, h, hm, x, hx => by
    simp only [opTags] at h
    split at h
    · rename_i z m hz hl
      cases h
      rcases List.mem_cons.1 hx with rfl | hx
      · exact ⟨z, ht.1 t z (hm _ List.mem_cons_self) hz, .inr List.mem_cons_self⟩
      · obtain ⟨z', h1, h2⟩ := ev_tags ht l m hl (fun y hy => hm y (List.mem_cons_of_mem _ hy)) x hx
        exact ⟨z', h1, h2.imp id (List.mem_cons_of_mem _)⟩
    · cases h
  | .const v :: l, zs, h, hm, x, hx => by
    simp only [opTags] at h
    rcases List.mem_cons.1 hx with rfl | hx
    · exact ⟨none, by rw [ht.2.1 v (hm _ List.mem_cons_self)]; rfl, .inl rfl⟩
    · exact ev_tags ht l zs h (fun y hy => hm y (List.mem_cons_of_mem _ hy)) x hx
  | .global _ :: l, zs, h, _, _, _ => by simp [opTags] at h
  | .func _ :: l, zs, h, _, _, _ => by simp [opTags] at h
/-- What is only read hangs on the objects it is handed. -/
theorem D_c1t {ρ : Operand → AV} {o : Oper} {h h' g : Hp} {r : AV} (hc : cls P o = 1) (hd : D P ρ o h r h') (ht : ∀ x ∈ o.op.operands, ∀ id, (ρ x).top = some id → g id = h id) : D P ρ o g r g := by
  have hh := (D_c1 hc hd).1
  subst hh
  unfold D at hd ⊢
  unfold cls at hc
  revert hd hc ht
  cases o.op with
  | call c =>
    intro hc hd ht
    simp only at hc hd ⊢
    cases hcc : c.callee with
    | builtin b =>
      rw [hcc] at hc hd
      cases b <;> simp at hc
      simp only at hd ⊢
      unfold DBuiltin at hd ⊢
      have hops : ∀ x ∈ c.args.toList, x ∈ c.operands.toList := fun x hx => by simp [Call.operands, hcc]; exact Array.mem_toList_iff.1 hx
      simp only [Op.operands] at ht
      generalize c.args.toList = al at hd hops ⊢
      generalize c.argTypes.toList = ts at hd ⊢
      match al, ts, hd with
      | [x], [t], hd =>
        simp only at hd ⊢
        by_cases hs : isStr P t = true
        · rw [if_pos hs] at hd ⊢
          obtain ⟨b, q1, q2, q3⟩ := hd
          exact ⟨b, q1, q2, trivial⟩
        · rw [if_neg hs] at hd ⊢
          obtain ⟨el, sz, b, l, q1, q2, q3, q4⟩ := hd
          exact ⟨el, sz, b, l, q1, by rw [rowOf_top (h := h') (ht x (Array.mem_toList_iff.1 (hops x (by simp))))]; exact q2, q3, trivial⟩
    | value x =>
      rw [hcc] at hc
      simp only at hc
      split at hc
      · split at hc <;> cases hc
      · cases hc
    | invoke _ _ => rw [hcc] at hc; simp at hc
  | convert s t x =>
    intro hc hd ht
    simp only at hc hd ⊢
    unfold DConv at hd ⊢
    split at hc
    · rename_i h1
      rw [if_pos h1] at hd ⊢
      rcases hd with ⟨el, b, l, bs, q1, q2, q3, q4, q5, q6, q7⟩ | ⟨el, b, id, len, l, q0, q1, q2, q3, q4, q5, q6, q7⟩
      · exact .inl ⟨el, b, l, bs, q1, q2, q3, by rw [rowOf_top (h := h') (ht x (by simp [Op.operands]))]; exact q4, q5, q6, rfl⟩
      · refine .inr ⟨el, b, id, len, l, q0, q1, q2, q3, ?_, q5, q6, rfl⟩
        rw [ht x (by simp [Op.operands]) id (by rw [q3]; rfl)]; exact q4
    · split at hc <;> cases hc
  | load t x =>
    intro hc hd ht
    obtain ⟨⟨n, ag, q1, q2⟩, q3⟩ := hd
    exact ⟨⟨n, ag, q1, by rw [ldAt_top (h := h') (ht x (by simp [Op.operands]))]; exact q2⟩, rfl⟩
  | slice t x lo hi mx => intro hc hd ht; simp only at hc; split at hc <;> cases hc
  | _ => intro hc hd ht; simp at hc
theorem ty_tag {an : Tmp → Option (Option Nat)} {ρ : Operand → AV} {y : Oper} {ty : TypeId} {a : Tmp} {v : Operand} {p : Nat} (hop : y.op = .store ty (.tmp a) v) (h : tagOk an ρ y) (hp : an a = some (some p)) : (ρ (.tmp a)).tagP = some (some p) :=
  h.1 a _ (by rw [hop]; simp [Op.operands]) hp
theorem tag_deeps {xs : List AV} (ht : ∀ x ∈ xs, x.tagP ≠ none) (g : Hp) : AV.deeps g xs = xs := by
  induction xs with
  | nil => rfl
  | cons x l ih =>
    rw [AV.deeps, ih (fun y hy => ht y (List.mem_cons_of_mem _ hy))]
    have := ht x List.mem_cons_self
    congr 1
    cases x <;> simp only [AV.tagP] at this <;> first | rfl | exact absurd rfl this | skip
    · split at this
      · rename_i hn; rw [AV.deep]; exact congrArg AV.agg (noid_deep.2 _ hn g)
      · exact absurd rfl this
    · split at this
      · rename_i hn; rw [AV.deep]; exact congrArg (AV.ifc _) (noid_deep.1 _ hn g)
      · exact absurd rfl this
/-- A call's footprint: what it is handed, and what it makes. -/
theorem call_frame {an : Tmp → Option (Option Nat)} {ρ : Operand → AV} {y : Oper} {c : Call} {f : FuncId} {ps : List (Option Nat)} {h h' : Hp} {r : AV} (hop : y.op = .call c) (hcal : c.callee = .value (.func f)) (hc3 : cls P y = 3) (hps : opTags an c.args.toList = some ps) (ty : tagOk an ρ y) (dy : D P ρ y h r h') :
    ∃ hs hs', h' = backH h hs hs' ∧ (∀ id, (hs id).isSome = true → some id ∈ ps) ∧ (∀ id, (hs' id).isSome = true → some id ∈ ps ∨ y.dst = some id) ∧ (∀ id, (hs' id).isSome = true → (hs id).isSome = true ∨ h id = none) ∧ ∀ g, (∀ id, some id ∈ ps ∨ y.dst = some id → g id = h id) → D P ρ y g r (backH g hs hs') := by
  unfold cls at hc3
  rw [hop] at hc3
  simp only [hcal] at hc3
  have hpl : ¬ plainCall P c = true := by
    intro hp
    rw [if_pos hp] at hc3
    split at hc3 <;> cases hc3
  have hD : ∀ g g', D P ρ y g r g' = DCall1 P ρ (.func f) c.args y.dst g r g' := fun g g' => by
    unfold D
    rw [hop]
    simp only [hcal]
    rw [if_neg hpl]
  rw [hD] at dy
  simp only [hD]
  obtain ⟨f', xs, ha, hfn, dy⟩ := dy
  have hf := ty.2.2 f (by rw [hop]; simp [Op.operands, Call.operands, hcal])
  have hxs : xs = c.args.toList.map ρ := by
    unfold argsOf at ha
    rw [hf] at ha
    simp [calleeOf] at ha
    exact ha.2.symm
  have htag : ∀ v ∈ xs, ∃ z, v.tagP = some z ∧ (z = none ∨ z ∈ ps) := fun v hv => by
    rw [hxs] at hv
    obtain ⟨w, hw, rfl⟩ := List.mem_map.1 hv
    exact ev_tags ty _ _ hps (fun v hv => by
      rw [hop]; simp [Op.operands, Call.operands, hcal]; exact .inr (Array.mem_toList_iff.1 hv)) w hw
  have hne : ∀ v ∈ xs, v.tagP ≠ none := fun v hv => by
    obtain ⟨z, h1, _⟩ := htag v hv
    rw [h1]; simp
  have hrow := tag_rows hne
  have hdp := tag_deeps hne
  rw [hrow] at dy
  simp only [frzA, hdp] at dy
  have b0 : ∀ g : Hp, backH g noHeap noHeap = g := fun g => backH_none
  rcases dy with ⟨h1, h2, h3, rfl⟩ | ⟨hs, hs', htc, h1, h2, h3, h4, rfl⟩
  · refine ⟨noHeap, noHeap, (b0 _).symm, fun id hi => (by cases hi), fun id hi => (by cases hi), fun id hi => (by cases hi), fun g _ => ?_⟩
    rw [b0]
    refine ⟨f', xs, ha, hfn, .inl ?_⟩
    rw [hrow]
    simp only [frzA, hdp]
    exact ⟨h1, h2, h3, trivial⟩
  · obtain ⟨t1, t2⟩ := htc hne
    have t1' : ∀ id, (hs id).isSome = true → some id ∈ ps := fun id hi => by
      obtain ⟨v, hv, hvt⟩ := t1 id hi
      obtain ⟨z, hz1, hz2⟩ := htag v hv
      rw [hvt] at hz1; cases hz1
      rcases hz2 with h | h
      · cases h
      · exact h
    have t2' : ∀ id, (hs' id).isSome = true → some id ∈ ps ∨ y.dst = some id := fun id hi => (t2 id hi).imp (t1' id) (fun x => x)
    refine ⟨hs, hs', rfl, t1', t2', h4, fun g hg => ?_⟩
    refine ⟨f', xs, ha, hfn, .inr ⟨hs, hs', htc, ?_⟩⟩
    rw [hrow]
    simp only [frzA, hdp]
    refine ⟨fun id ob hi => ?_, h2, h3, fun id hi => ?_, trivial⟩
    · obtain ⟨k1, k2⟩ := h1 id ob hi
      exact ⟨by rw [hg id (.inl (t1' id (by rw [hi]; rfl)))]; exact k1, k2⟩
    · rcases h4 id hi with k | k
      · exact .inl k
      · exact .inr (by rw [hg id (t2' id hi)]; exact k)
theorem sepC_at {an : Tmp → Option (Option Nat)} {ρ : Operand → AV} {x y : Oper} {h h1 : Hp} {ry : AV} (hs : sepC P an y x = true) (ty : tagOk an ρ y) (tx : tagOk an ρ x) (dy : D P ρ y h ry h1) : cls P x = 1 ∧ ∀ z ∈ x.op.operands, ∀ id, (ρ z).top = some id → h1 id = h id := by
  unfold sepC at hs
  rw [Bool.and_eq_true] at hs
  obtain ⟨hx1, hs⟩ := hs
  have hx1 : cls P x = 1 := by simpa using hx1
  split at hs
  · rename_i c hop
    split at hs
    · rename_i f hcal
      rw [Bool.and_eq_true] at hs
      obtain ⟨hy3, hs⟩ := hs
      have hy3 : cls P y = 3 := by simpa using hy3
      refine ⟨hx1, fun z hz id hid => ?_⟩
      split at hs
      · rename_i ps qs hps hqs
        obtain ⟨hs0, hs1, rfl, t1, t2, _, _⟩ := call_frame hop hcal hy3 hps ty dy
        obtain ⟨q, hq1, hq2⟩ := ev_tags tx _ _ hqs (fun v hv => Array.mem_toList_iff.1 hv) z (Array.mem_toList_iff.2 hz)
        have hqt := tag_top hq1
        rw [hid] at hqt
        subst hqt
        have hq3 : some id ∈ qs := by
          rcases hq2 with h | h
          · cases h
          · exact h
        have hsep := List.all_eq_true.1 hs _ hq3
        simp only [Bool.and_eq_true, Bool.not_eq_true', bne_iff_ne] at hsep
        have n1 : ¬ some id ∈ ps := fun hm => by rw [List.contains_iff_mem.2 hm] at hsep; exact absurd hsep.1 (by decide)
        simp only [backH]
        rw [if_neg (fun h => n1 (t1 id h)), if_neg (fun h => (t2 id h).elim n1 hsep.2)]
      · cases hs
    · cases hs
  · rename_i t0 a v hop
    refine ⟨hx1, fun z hz id hid => ?_⟩
    split at hs
    · rename_i p qs hp hqs
      have hat := ty_tag hop ty hp
      have hao : addrT y.op = some a := by rw [hop]; rfl
      obtain ⟨q, hq1, hq2⟩ := ev_tags tx _ _ hqs (fun v hv => Array.mem_toList_iff.1 hv) z (Array.mem_toList_iff.2 hz)
      have hqt := tag_top hq1
      rw [hid] at hqt
      subst hqt
      have hq3 : some id ∈ qs := by
        rcases hq2 with h | h
        · cases h
        · exact h
      have hsep := List.all_eq_true.1 hs _ hq3
      have hne : id ≠ p := by
        intro e
        rw [e] at hsep
        simp at hsep
      rcases D_addr hao dy with ⟨rfl, _⟩ | ⟨n, v', s1, _⟩
      · rfl
      · obtain ⟨id', ob', e1, rfl, _⟩ := stAt_top s1
        rw [tag_top hat] at e1
        cases e1
        simp only [setH]
        rw [if_neg hne]
    · cases hs
  · cases hs
theorem sepC_d {an : Tmp → Option (Option Nat)} {ρ : Operand → AV} {x y : Oper} {h h1 h2 : Hp} {rx ry : AV} (hs : (sepC P an y x || sepC P an x y) = true) (ty : tagOk an ρ y) (tx : tagOk an ρ x) (dy : D P ρ y h ry h1) (dx : D P ρ x h1 rx h2) : ∃ h1', D P ρ x h rx h1' ∧ D P ρ y h1' ry h2 := by
  rw [Bool.or_eq_true] at hs
  rcases hs with hs | hs
  · obtain ⟨c1, ha⟩ := sepC_at hs ty tx dy
    have hh := (D_c1 c1 dx).1
    subst hh
    exact ⟨h, D_c1t c1 dx (fun z hz id hid => (ha z hz id hid).symm), dy⟩
  · have c1 : cls P y = 1 := by
      unfold sepC at hs
      rw [Bool.and_eq_true] at hs
      simpa using hs.1
    have hh := (D_c1 c1 dy).1
    subst hh
    obtain ⟨_, ha⟩ := sepC_at hs tx ty dx
    exact ⟨h2, dx, D_c1t c1 dy ha⟩
/-- A call, and what is made beside it. -/
def sepE (P : Program) (an : Tmp → Option (Option Nat)) (y x : Oper) : Bool := cls P x == 2 && match y.op with
  | .call c => match c.callee with
    | .value (.func _) => cls P y == 3 && match opTags an c.args.toList, x.dst with
      | some ps, some d => !ps.contains (some d) && y.dst != some d
      | _, _ => false
    | _ => false
  | _ => false
theorem sepE_at {an : Tmp → Option (Option Nat)} {ρ : Operand → AV} {x y : Oper} {h h1 : Hp} {ry : AV} (hs : sepE P an y x = true) (ty : tagOk an ρ y) (dy : D P ρ y h ry h1) : cls P x = 2 ∧ ∃ d hs hs', x.dst = some d ∧ h1 = backH h hs hs' ∧ hs d = none ∧ hs' d = none ∧ ∀ g, (∀ id, id ≠ d → g id = h id) → D P ρ y g ry (backH g hs hs') := by
  unfold sepE at hs
  rw [Bool.and_eq_true] at hs
  obtain ⟨hx2, hs⟩ := hs
  refine ⟨by simpa using hx2, ?_⟩
  split at hs
  · rename_i c hop
    split at hs
    · rename_i f hcal
      rw [Bool.and_eq_true] at hs
      obtain ⟨hy3, hs⟩ := hs
      have hy3 : cls P y = 3 := by simpa using hy3
      split at hs
      · rename_i ps d hps hd
        obtain ⟨k0, k1, e, t1, t2, _, t3⟩ := call_frame hop hcal hy3 hps ty dy
        rw [Bool.and_eq_true] at hs
        have n1 : ¬ some d ∈ ps := fun hm => by have h2 := hs.1; rw [List.contains_iff_mem.2 hm] at h2; exact absurd h2 (by decide)
        have n2 : y.dst ≠ some d := by simpa using hs.2
        refine ⟨d, k0, k1, hd, e, ?_, ?_, fun g hg => t3 g fun id hid => hg id ?_⟩
        · cases h2 : k0 d with
          | none => rfl
          | some _ => exact absurd (t1 d (by rw [h2]; rfl)) n1
        · cases h2 : k1 d with
          | none => rfl
          | some _ => exact ((t2 d (by rw [h2]; rfl)).elim n1 n2).elim
        · rintro rfl
          exact hid.elim n1 n2
      · cases hs
    · cases hs
  · cases hs
theorem back_set {h hs hs' : Hp} {d : Nat} {ob : Ob} (h1 : hs d = none) (h2 : hs' d = none) : backH (setH h d ob) hs hs' = setH (backH h hs hs') d ob := by
  funext id
  simp only [backH, setH]
  by_cases e : id = d
  · subst e; simp [h1, h2]
  · simp [e]
theorem sepE_d {an : Tmp → Option (Option Nat)} {ρ : Operand → AV} {x y : Oper} {h h1 h2 : Hp} {rx ry : AV} (hs : (sepE P an y x || sepE P an x y) = true) (ty : tagOk an ρ y) (tx : tagOk an ρ x) (dy : D P ρ y h ry h1) (dx : D P ρ x h1 rx h2) : ∃ h1', D P ρ x h rx h1' ∧ D P ρ y h1' ry h2 := by
  rw [Bool.or_eq_true] at hs
  rcases hs with hs | hs
  · obtain ⟨c2, d, k0, k1, hd, rfl, z0, z1, hg⟩ := sepE_at hs ty dy
    obtain ⟨d', ob, e1, e2, rfl, e3⟩ := D_c2 c2 dx
    rw [hd] at e1; cases e1
    have hn : h d = none := by
      simp only [backH, z0, z1] at e2
      simpa using e2
    refine ⟨setH h d ob, e3 h hn, ?_⟩
    rw [← back_set z0 z1]
    exact hg _ fun id hid => by simp only [setH]; rw [if_neg hid]
  · obtain ⟨c2, d, k0, k1, hd, rfl, z0, z1, hg⟩ := sepE_at hs tx dx
    obtain ⟨d', ob, e1, e2, rfl, e3⟩ := D_c2 c2 dy
    rw [hd] at e1; cases e1
    refine ⟨backH h k0 k1, hg h fun id hid => by simp only [setH]; rw [if_neg hid], ?_⟩
    rw [back_set z0 z1]
    refine e3 _ ?_
    simp only [backH, z0, z1]
    simpa using e2
def sysC (P : Program) (ann an : Tmp → Option (Option Nat)) : Sys P where
  D ρ o h r h' := D P ρ o h r h' ∧ annOk ann ρ o ∧ tagOk an ρ o
  cls := cls P
  sound := fun s hd hdst K Q hk => D_sound s hd.1 hdst K Q hk
  congr := fun {ρ ρ' o h h' r} hx hd => by
    obtain ⟨h1, h2⟩ := (sysA P ann).congr hx ⟨hd.1, hd.2.1⟩
    exact ⟨h1, h2, fun t z k1 k2 => by rw [← hx _ k1]; exact hd.2.2.1 t z k1 k2, fun v k => by rw [← hx _ k]; exact hd.2.2.2.1 v k, fun f k => by rw [← hx _ k]; exact hd.2.2.2.2 f k⟩
  c0 := fun hc hd => ⟨(D_c0 hc hd.1).1, fun g => ⟨(D_c0 hc hd.1).2 g, hd.2⟩⟩
  c1 := fun hc hd => ⟨(D_c1 hc hd.1).1, fun g hg => ⟨(D_c1 hc hd.1).2.1 g hg, hd.2⟩⟩
  c1d := fun hc hd ht => ⟨(D_c1 hc hd.1).2.2 _ _ _ rfl ht, hd.2⟩
  c2 := fun hc hd => by
    obtain ⟨d, ob, h1, h2, h3, h4⟩ := D_c2 hc hd.1
    exact ⟨d, ob, h1, h2, h3, fun g hg => ⟨h4 g hg, hd.2⟩⟩
  sep := fun y x => sepA ann y x || ((sepC P an y x || sepC P an x y) || (sepE P an y x || sepE P an x y))
  sepd := fun {ρ x y h h1 h2 rx ry} hs hy hx => by
    rw [Bool.or_eq_true] at hs
    rcases hs with hs | hs
    · obtain ⟨g, h1, h2⟩ := sepA_d hs hy.2.1 hx.2.1 hy.1 hx.1
      exact ⟨g, ⟨h1, hx.2⟩, h2, hy.2⟩
    · rw [Bool.or_eq_true] at hs
      rcases hs with hs | hs
      · obtain ⟨g, h1, h2⟩ := sepC_d hs hy.2.2 hx.2.2 hy.1 hx.1
        exact ⟨g, ⟨h1, hx.2⟩, h2, hy.2⟩
      · obtain ⟨g, h1, h2⟩ := sepE_d hs hy.2.2 hx.2.2 hy.1 hx.1
        exact ⟨g, ⟨h1, hx.2⟩, h2, hy.2⟩
def onceC (an : Tmp → Option (Option Nat)) (ops : Array Oper) : Bool := (List.range ops.size).all fun i => match ops[i]? with
  | some o => o.op.operands.toList.all fun x => match x with
    | .tmp t => (an t).isNone || (ops.toList.drop i).all fun q => q.dst != some t
    | _ => true
  | none => true
theorem chainC {ann an : Tmp → Option (Option Nat)} {ops : Array Oper} (honce : onceC an ops = true) {e' : Nat → AV} {h' : Hp} (ha : ∀ t q, an t = some q → (e' t).tagP = some q) : ∀ (n k : Nat) (e : Nat → AV) (h : Hp), k + n = ops.size → Chain (sysA P ann) ops (List.range' k n) e h e' h' → Chain (sysC P ann an) ops (List.range' k n) e h e' h'
  | 0, k, e, h, _, hc => hc
  | n + 1, k, e, h, hk, hc => by
    rw [List.range'_succ] at hc ⊢
    obtain ⟨o, r, h1, ho, hd, hc⟩ := hc
    refine ⟨o, r, h1, ho, ?_, chainC honce ha n (k + 1) _ _ (by omega) hc⟩
    have htag : tagOk an (evE e) o := by
      refine ⟨fun t q h2 h3 => ?_, fun v _ => rfl, fun f _ => rfl⟩
      have h4 := (List.all_eq_true.1 honce) k (List.mem_range.2 (by omega))
      rw [ho] at h4
      have h4 := List.all_eq_true.1 h4 _ (Array.mem_toList_iff.2 h2)
      simp only [h3, Option.isNone_some, Bool.false_or] at h4
      have h5 : ∀ i, k ≤ i → ∀ o', ops[i]? = some o' → o'.dst ≠ some t := by
        intro i hi o' ho'
        have hm : o' ∈ ops.toList.drop k := by
          refine List.mem_of_getElem? (i := i - k) ?_
          rw [List.getElem?_drop, show k + (i - k) = i by omega, Array.getElem?_toList]; exact ho'
        have := (List.all_eq_true.1 h4) o' hm
        simpa using this
      have h6 := chain_keep _ _ _ hc (t := t) (fun i hi => h5 i (by obtain ⟨j, _, rfl⟩ := List.mem_range'.1 hi; omega))
      have h7 : putE e o.dst r t = e t := by
        have := h5 k (Nat.le_refl _) o ho
        exact putE_ne this
      show (e t).tagP = some q
      rw [← h7, ← h6]
      exact ha t q h3
    unfold DG at hd ⊢
    cases hg : o.guard with
    | none => rw [hg] at hd; exact ⟨hd.1, hd.2, htag⟩
    | some jw =>
      rw [hg] at hd
      obtain ⟨t, v, q1, q2, q3⟩ := hd
      exact ⟨t, v, q1, q2, q3.imp (fun x => ⟨x.1, x.2.1, x.2.2, htag⟩) id⟩
theorem annL_tag {e : Nat → AV} : ∀ {l : List (Tmp × Option Nat)}, (∀ p ∈ l, (e p.1).tagP = some p.2) → ∀ t q, annL l t = some q → (e t).tagP = some q
  | (u, q) :: l, hl, t, q', hh => by
    simp only [annL] at hh
    split at hh
    · rename_i e1; subst e1; cases hh; exact hl (t, q) (by simp)
    · exact annL_tag (fun p hp => hl p (by simp [hp])) t q' hh
theorem awp_regCM {id : Nat} {ls : List Oper} (l lc : List (Tmp × Option Nat)) (hm : P.follows .mixedOrders = true) (hok : okRegM (sysC P (annL l) (annL lc)) nt ls.toArray = true) (honce : once ls.toArray = true) (honceC : onceC (annL lc) ls.toArray = true)
    (hh : ∀ K : (Nat → AV) → Hp → Prop, (∀ e h, ((∀ p ∈ l, (e p.1).top = p.2) ∧ ∀ p ∈ lc, (e p.1).tagP = some p.2) → Q .normal ⟨e, h⟩ → K e h) → RunK P ls.toArray ls e h K) : AWP P nt (.region id ls.toArray true) Q ⟨e, h⟩ := by
  obtain ⟨e', h', hc, ⟨ha, hac⟩, hq⟩ := chain_of_run ls 0 e h (by simp) (by simp) (hh (fun e h => ((∀ p ∈ l, (e p.1).top = p.2) ∧ ∀ p ∈ lc, (e p.1).tagP = some p.2) ∧ Q .normal ⟨e, h⟩) fun _ _ x y => ⟨x, y⟩)
  refine awp_region (S := sysC P (annL l) (annL lc)) _ hm (okReg_of hok) (e' := e') (h' := h') ?_ hq
  rw [List.range_eq_range']
  refine chainC honceC (annL_tag hac) _ _ _ _ (by simp) ?_
  refine chainA honce (annL_ok ha) _ _ _ _ (by simp) ?_
  simpa using hc
/-- A region that is not drawn goes on as it is written. -/
theorem awp_regT {id : Nat} {ls : List Oper} (hok : ls.all (fun o => o.dst.all (· < nt)) = true)
    (hh : ∀ K : (Nat → AV) → Hp → Prop, (∀ e h, Q .normal ⟨e, h⟩ → K e h) → RunK P ls.toArray ls e h K) : AWP P nt (.region id ls.toArray false) Q ⟨e, h⟩ := by
  obtain ⟨e', h', hc, hq⟩ := chain_of_run ls 0 e h (by simp) (by simp) (hh (fun e h => Q .normal ⟨e, h⟩) fun _ _ x => x)
  intro C0 C a hex hs
  refine wp_region (ops_of_chain (S := sys P) (fun j q d hj hd => ?_) hq _ _ _ C a (by rw [List.range_eq_range']; simpa using hc) hex hs)
  have := List.all_eq_true.1 hok q (by
    have := List.mem_of_getElem? (l := ls) (i := j) (by simpa using hj)
    exact this)
  rw [hd] at this
  simpa using this
end
/-! The walker's steps, each a rule that finds itself. -/
theorem zzc {p q : Prop} (h : q) (hpq : q → p := by with_reducible first | exact awp_seq | exact then_n | exact then_r | exact then_e | exact awp_skip | exact awp_label | exact awp_ret | exact awp_exit | exact awp_block | exact awp_scope | exact in_n | exact in_r | exact in_e | exact (fun h => in_ne (by decide) h) | exact ng_n | exact ng_r | exact ng_e) : p := hpq h
theorem zzr {P : Program} {rs : List ResultVar} {h1 : Hp} {r : AV} {Q : Exit → St → Prop} (hQ : ∀ σ ex ys r0, (ex = .normal ∨ ex = .ret) → IsO (resAV P σ.env σ.heap rs) ys → Is (outOf ys) r0 → Fin σ.heap r0 h1 r → Q ex σ) {σ : St} {ex : Exit} {ys : List AV} {r0 : AV} (h4 : Fin σ.heap r0 h1 r) (k1 : (ex = .normal ∨ ex = .ret) := by first | exact .inr rfl | exact .inl rfl) (k2 : IsO (resAV P σ.env σ.heap rs) ys := by simp; exact .r) (k3 : Is (outOf ys) r0 := by simp; exact .r) : Q ex σ := hQ σ ex ys r0 k1 k2 k3 h4
theorem zzw {h h1 : Hp} {e : Nat → AV} {l : List (Nat × AV)} (hs : SubH h h1 h1 := by repeat' (first | refine sub_ohp (by first | (simp; done) | (intro hne; simp at hne; simp [hne])) (by simp) ?_ | exact sub_hpL (by simp))) (hb : BigIn h h1 := by simp) (hl : ∀ p ∈ l, e p.1 = p.2 ∧ p.2.within h1 = true := by simp <;> omega) : Weak ⟨e, h⟩ ⟨envA l, h1⟩ := weak_o hs hb hl
theorem zzx {h h1 : Hp} {e : Nat → AV} {l : List (Nat × AV)} (a b : Nat) (ha : a < 100000 := by decide) (hc : b < 100000 := by decide) (hs : SubH (renH (sw a b) (sw a b) h) h1 h1 := by repeat' (first | refine sub_ohp (by first | (simp; done) | (intro hne; simp at hne; simp [hne])) (by simp) ?_ | exact sub_hpL (by simp))) (hb : BigIn (renH (sw a b) (sw a b) h) h1 := by simp) (hl : ∀ p ∈ l, (e p.1).ren (sw a b) = p.2 ∧ p.2.within h1 = true := by simp <;> omega) : Weak ⟨e, h⟩ ⟨envA l, h1⟩ := weak_or a b ha hc hs hb hl
theorem zzd {h : Hp} {r : AV} (hn : Is r.noid true := by simp; exact .r) (hb : BigIn h noHeap := by simp) : Fin h r noHeap r := Fin.drop hn hb
theorem zzg {P : Program} {nt : Nat} {f : FuncId} {fn : Func} {c : Code} {xs : List AV} {rs : List ResultVar} {r : AV} {h h1 : Hp} (hf : P.funcs[f]? = some fn) (hw : ∀ Q : Exit → St → Prop, (∀ σ ex ys r0, (ex = .normal ∨ ex = .ret) → IsO (resAV P σ.env σ.heap rs) ys → Is (outOf ys) r0 → Fin σ.heap r0 h1 r → Q ex σ) → (∀ σ σ2 ex, Weak σ σ2 → Q ex σ2 → Q ex σ) → AWP P nt c Q ⟨envOf xs, h⟩) (hb : fn.body = some c := by rfl) (hnt : fn.ntmps = nt := by rfl) (hrs : fn.results.toList = rs := by rfl) (hxs : xs.length ≤ nt := by simp) (hbig : ∀ id, (h id).isSome = true → 100000 ≤ id := by intro id h; simp at h <;> omega) : CallD P f xs h r h1 := calls_go hf hb hnt hrs hxs hbig hw
end Go.Proofs.Ytejeemhenoobjaa.Asl

