/- Part 14 of what the row leans on: abstract values and states, their rules, and the contracts of the functions. -/
import Derived.ChangeArms
import Derived.ChangeSlices
import Derived.SizedLaws
import Derived.WideShapes
import Derived.Test.YtjbbnollidcagaaDoorZgc13
namespace Go.Proofs.YtjbbnollidcagaaDoor.Asl
open Go Go.RowKit
set_option linter.unusedVariables false
set_option linter.unusedSimpArgs false

/-- The world as a call finds it: all that stands is only read. -/
def inC (W : World) : Cx := { W := W, F := fun b => b < W.heap.size, O := fun _ => False, ι := fun _ => none }
theorem inC_ok (W : World) (hg : Gl (inC W)) : HOk (inC W) noHeap := by
  refine ⟨fun _ _ h => ?_, fun _ _ => rfl, fun _ _ _ _ _ _ _ h => ?_, fun _ h => h.elim, fun _ h => h, fun _ h => h.elim, hg⟩ <;> cases h
theorem gl_in {W : World} (h : ∀ p ∈ globs, W.cell? ⟨p.1, 0, none⟩ = some p.2) : Gl (inC W) := fun p hp => by
  have h1 := h p hp
  refine ⟨?_, h1⟩
  unfold World.cell? at h1
  split at h1
  · rename_i hb
    exact (Array.getElem?_eq_some_iff.1 hb).1
  · cases h1

def Rda (P : Program) (t : TypeId) {α : Type} (g : α → AV) (ok : α → Prop) : Prop :=
  ∀ (H : Type) (enc : TypeId × Value → H) (W : World) (fuel : Nat) (cs : List Value) (D : DataW H) (p : List MemPlace),
    DataW.trod enc P W 0 (fun _ => true) true fuel t cs = some (D, p) → (∀ n ∈ D.weights P t, n ≤ reachBytes) → ∃ x, RC (inC W) (g x) cs ∧ ok x

theorem rda_int {P : Program} {t : TypeId} {k : IntKind} (hu : P.underlying t = some (.int k)) : Rda P t (fun x => .raw (.int k x)) (fun x => (Lit.int k x).wf = true) := by
  intro H enc W fuel cs D p h hw
  obtain ⟨n, rfl, _, hn⟩ := DataW.trod_int hu h
  exact ⟨n, .one (.raw _) rfl, hn⟩
theorem rda_string {P : Program} {t : TypeId} (hu : P.underlying t = some .string) : Rda P t (fun s => .raw (.string s)) (fun s => s.size ≤ 140737488351232) := by
  intro H enc W fuel cs D p h hw
  obtain ⟨s, rfl, e, _⟩ := DataW.trod_string hu h
  have e1 : D = .lit (.string s.data.toList) := congrArg Prod.fst e
  subst e1
  refine ⟨s, .one (.raw _) rfl, ?_⟩
  have := hw s.data.toList.length (by simp [DataW.weights])
  rw [Array.length_toList] at this
  exact this
theorem add_add' (a : Addr) (i j : Nat) : (a.add i).add j = a.add (i + j) := by
  unfold Addr.add
  by_cases h : i = 0 <;> by_cases h' : j = 0 <;> simp_all [Nat.add_assoc]
theorem weights_all' {H : Type} {P : Program} {e : TypeId} : ∀ {l : List (DataW H)} {d : DataW H}, d ∈ l → ∀ n ∈ d.weights P e, n ∈ DataW.weightsAll P e l
  | [], d, h, _, _ => by simp at h
  | x :: r, d, h, n, hn => by
    simp only [DataW.weightsAll, List.mem_append]
    rcases List.mem_cons.1 h with rfl | h
    · exact .inl hn
    · exact .inr (weights_all' h n hn)
theorem row_of {α : Type} {W : World} {a : Addr} {sz : Nat} {g : α → AV} {ok : α → Prop} : ∀ n, (∀ i, i < n → ∃ x, ok x ∧ ∃ c : List Value, c.length = sz ∧ RC (inC W) (g x) c ∧ ∀ j u, c[j]? = some u → W.cell? (a.add (i * sz + j)) = some u) →
    ∃ (l : List α) (cs : List Value), l.length = n ∧ cs.length = n * sz ∧ RCs (inC W) (l.map g) cs ∧ (∀ j u, cs[j]? = some u → W.cell? (a.add j) = some u) ∧ ∀ x ∈ l, ok x
  | 0, _ => ⟨[], [], rfl, by simp, .nil, fun j u h => by simp at h, by simp⟩
  | n + 1, h => by
    obtain ⟨l, cs, h1, h2, h3, h4, h5⟩ := row_of n (fun i hi => h i (by omega))
    obtain ⟨x, hok, c, k1, k2, k3⟩ := h n (by omega)
    refine ⟨l ++ [x], cs ++ c, by simp [h1], by simp [h2, k1, Nat.add_mul], ?_, fun j u hj => ?_, fun y hy => ?_⟩
    · rw [List.map_append]
      refine h3.append ?_
      have := RCs.cons k2 RCs.nil
      rwa [List.append_nil] at this
    · rcases Nat.lt_or_ge j cs.length with hlt | hge
      · rw [List.getElem?_append_left hlt] at hj; exact h4 j u hj
      · rw [List.getElem?_append_right hge] at hj
        have := k3 _ _ hj
        rw [← h2, show cs.length + (j - cs.length) = j by omega] at this
        exact this
    · rcases List.mem_append.1 hy with hy | hy
      · exact h5 y hy
      · rw [List.mem_singleton.1 hy]; exact hok
theorem rda_slice {P : Program} {t e : TypeId} {α : Type} {g : α → AV} {ok : α → Prop} {b sz : Nat} (hu : P.underlying t = some (.slice e)) (hc : P.cellsOf e = sz) (hp : 0 < sz) (hb : P.bytesOf e = b) (hbp : 0 < b) (hd : Rda P e g ok) (hs : ∀ x, (g x).size = sz) :
    Rda P t (fun l : List α => AV.sl sz (l.map g)) (fun l => l.length * b ≤ 140737488351232 ∧ l.length ≤ 140737488351232 ∧ ∀ x ∈ l, ok x) := by
  intro H enc W fuel cs D p h hw
  rcases DataW.trod_slice hu h with ⟨rfl, e0⟩ | ⟨a, len, cap, elems, rest, n, _, rfl, e0, _, hl, hm, hlen, hel, _, _⟩
  · exact ⟨[], .one .sl0 rfl, by simp, by simp, by simp⟩
  · have e1 : D = .slice (elems.map (·.1)) (rest.map (·.1)) := congrArg Prod.fst e0
    subst e1
    have hw1 : ∀ n ∈ ((elems.map (·.1)).length + (rest.map (·.1)).length) * P.bytesOf e :: (DataW.weightsAll P e (elems.map (·.1)) ++ DataW.weightsAll P e (rest.map (·.1))), n ≤ reachBytes := by
      intro n hn
      refine hw n ?_
      simp only [DataW.weights, hu]
      exact hn
    have each : ∀ i, i < len → ∃ x, ok x ∧ ∃ c : List Value, c.length = sz ∧ RC (inC W) (g x) c ∧ ∀ j u, c[j]? = some u → W.cell? (a.add (i * sz + j)) = some u := by
      intro i hi
      have h1 := hel i hi
      rw [List.getElem?_eq_getElem (by omega)] at h1
      obtain ⟨c, h2, h3⟩ := Option.bind_eq_some_iff.1 h1
      obtain ⟨x, hx, hok⟩ := hd H enc W n c (elems[i]'(by omega)).1 (elems[i]'(by omega)).2 (by rw [h3]) (fun m hm => hw1 m (List.mem_cons_of_mem _ (List.mem_append_left _ (weights_all' (List.mem_map.2 ⟨_, List.getElem_mem (by omega), rfl⟩) m hm))))
      obtain ⟨_, h4, h5⟩ := World.cells?_some h2
      refine ⟨x, hok, c, by rw [h4, hc], hx, fun j u hj => ?_⟩
      have hj' := (List.getElem?_eq_some_iff.1 hj).1
      have := h5 j (by omega)
      rw [add_add', hc] at this
      rw [this, hj]
    obtain ⟨l, cells, hll, hcl, hrc, hrd, hok⟩ := row_of len each
    subst hll
    refine ⟨l, .one ?_ rfl, ?_, ?_, hok⟩
    · rcases l with _ | ⟨x, l⟩
      · exact .sl0
      · have h0 : 0 < cells.length := by rw [hcl]; simp [Nat.add_mul]; omega
        have hz := hrd 0 _ (List.getElem?_eq_getElem h0)
        have hsp : a.spot = none ∧ a.block < W.heap.size := by
          simp only [Addr.add, if_true] at hz
          unfold World.cell? at hz
          split at hz
          · rename_i hb'
            split at hz
            · cases hz
            · rename_i hsp
              exact ⟨by simpa using hsp, (Array.getElem?_eq_some_iff.1 hb').1⟩
          · cases hz
        have ha : a = ⟨a.block, a.off, none⟩ := by cases a; simp at hsp; simp [hsp.1]
        rw [ha]
        have := RV.sl (C := inC W) (sz := sz) (l := (x :: l).map g) (b := a.block) (o := a.off) (c := cap) hrc (fun y hy => by
          obtain ⟨z, _, rfl⟩ := List.mem_map.1 hy
          exact hs z) hsp.2 (fun j u hj => by
          have := hrd j u hj
          rw [ha, add_at] at this
          exact this) (by rw [List.length_map]; exact hl)
        rw [List.length_map] at this
        exact this
    · have := hw1 _ (List.mem_cons_self)
      rw [List.length_map, hlen, hb] at this
      exact Nat.le_trans (Nat.mul_le_mul_right _ (Nat.le_add_right _ _)) this
    · have := hw1 _ (List.mem_cons_self)
      rw [List.length_map, hlen, hb] at this
      exact Nat.le_trans (Nat.le_trans (Nat.le_mul_of_pos_right _ hbp) (Nat.mul_le_mul_right _ (Nat.le_add_right _ _))) this
def RdFa (P : Program) (l : List (TypeId × Nat)) (off : Nat) {α : Type} (g : α → List AV) (ok : α → Prop) : Prop :=
  ∀ (H : Type) (enc : TypeId × Value → H) (W : World) (fuel : Nat) (cs : List Value) (xs : List (DataW H × List MemPlace)),
    xs.length = l.length → (∀ (i : Nat) (f : TypeId × Nat), l[i]? = some f → DataW.trod enc P W 0 (fun _ => true) true fuel f.1 ((cs.drop f.2).take (P.cellsOf f.1)) = xs[i]?) →
    (∀ (i : Nat) (f : TypeId × Nat) (y : DataW H × List MemPlace), l[i]? = some f → xs[i]? = some y → ∀ n ∈ y.1.weights P f.1, n ≤ reachBytes) → cs.length = off + (l.map fun f => P.cellsOf f.1).sum → ∃ x, RCs (inC W) (g x) (cs.drop off) ∧ ok x
theorem rdfa_one {P : Program} {t : TypeId} {off : Nat} {α : Type} {g : α → AV} {ok : α → Prop} (hd : Rda P t g ok) : RdFa P [(t, off)] off (fun x => [g x]) ok := by
  intro H enc W fuel cs xs hx hf hw hl
  match xs, hx with
  | [y], _ =>
    obtain ⟨x, hk, ho⟩ := hd H enc W fuel _ y.1 y.2 (hf 0 _ rfl) (hw 0 _ y rfl rfl)
    refine ⟨x, ?_, ho⟩
    simp at hl
    rw [List.take_of_length_le (by rw [List.length_drop]; show cs.length - off ≤ P.cellsOf t; omega)] at hk
    have := RCs.cons hk RCs.nil
    rwa [List.append_nil] at this
theorem rdfa_cons {P : Program} {t : TypeId} {off sz : Nat} {l : List (TypeId × Nat)} {α β : Type} {ga : α → AV} {gb : β → List AV} {oka : α → Prop} {okb : β → Prop} (hc : P.cellsOf t = sz) (ha : Rda P t ga oka) (hb : RdFa P l (off + sz) gb okb) :
    RdFa P ((t, off) :: l) off (fun x : α × β => ga x.1 :: gb x.2) (fun x => oka x.1 ∧ okb x.2) := by
  intro H enc W fuel cs xs hx hf hw hl
  match xs, hx with
  | y :: ys, hx =>
    simp [hc] at hl
    obtain ⟨x, hk, ho⟩ := ha H enc W fuel _ y.1 y.2 (hf 0 _ rfl) (hw 0 _ y rfl rfl)
    obtain ⟨z, hk2, ho2⟩ := hb H enc W fuel cs ys (by simpa using hx) (fun i f h => hf (i + 1) f h) (fun i f y h h' => hw (i + 1) f y h h') (by omega)
    refine ⟨(x, z), ?_, ho, ho2⟩
    simp only [hc] at hk
    have := RCs.cons hk hk2
    rw [← List.drop_drop, List.take_append_drop] at this
    exact this
theorem rda_struct {P : Program} {t : TypeId} {fs : Array Field} {l : List (TypeId × Nat)} {α β : Type} {g : α → List AV} {ok : α → Prop} {f : β → α} {m : α → β} (hu : P.underlying t = some (.struct fs)) (hl : fs.toList.map (fun f => (f.type, f.offset)) = l)
    (hc : P.cellsOf t = (l.map fun f => P.cellsOf f.1).sum) (hd : RdFa P l 0 g ok) (hg : ∀ x, f (m x) = x) : Rda P t (fun x => .agg (g (f x))) (fun x => ok (f x)) := by
  intro H enc W fuel cs D p h hw
  obtain ⟨xs, n, _, e0, hcs, hxl, hf⟩ := DataW.trod_struct hu h
  have e1 : D = .agg (xs.map (·.1)) := congrArg Prod.fst e0
  subst e1
  subst hl
  have hget : ∀ (i : Nat) (z : TypeId × Nat), (fs.toList.map (fun f => (f.type, f.offset)))[i]? = some z → ∃ fd : Field, fs[i]? = some fd ∧ z = (fd.type, fd.offset) := by
    intro i z hz
    rw [List.getElem?_map, Array.getElem?_toList] at hz
    obtain ⟨fd, h1, h2⟩ := Option.map_eq_some_iff.1 hz
    exact ⟨fd, h1, h2.symm⟩
  obtain ⟨x, hk, ho⟩ := hd H enc W n cs xs (by simp [hxl]) (fun i z hz => by
      obtain ⟨fd, h1, rfl⟩ := hget i z hz
      exact hf i fd h1) (fun i z y hz hy m hm => by
      obtain ⟨fd, h1, rfl⟩ := hget i z hz
      refine hw m ?_
      simp only [DataW.weights, hu]
      refine DataW.weights_mem_each (j := i) (t := fd.type) (d := y.1) ?_ ?_ m hm
      · rw [List.getElem?_map, Array.getElem?_toList, h1]; rfl
      · rw [List.getElem?_map, hy]; rfl) (by omega)
  refine ⟨m x, ?_, by show ok (f (m x)); rw [hg]; exact ho⟩
  show RC _ (.agg (g (f (m x)))) cs
  rw [hg]
  exact .agg hk
/-- An argument: as it comes. -/
theorem rda_arg {P : Program} {ts : List TypeId} {H : Type} {ds : List (DataW H)} {t : TypeId} {α : Type} {g : α → AV} {ok : α → Prop} (hd : Rda P t g ok) (hs : (DataW.weightsEach P ts ds).all (· ≤ reachBytes) = true)
    {enc : TypeId × Value → H} {W : World} {v : Value} {D : DataW H} {p : List MemPlace} (h : DataW.Trod enc P W 0 (fun _ => true) true t v D p) {j : Nat} (ht : ts[j]? = some t) (hj : ds[j]? = some D) : ∃ x, RC (inC W) (g x) v.cells.toList ∧ ok x := by
  obtain ⟨fuel, hf⟩ := h
  refine hd H enc W fuel _ D p hf fun n hn => ?_
  have := List.all_eq_true.1 hs n (DataW.weights_mem_each ht hj n hn)
  simpa using this
theorem rv_slice {C : Cx} {sz : Nat} {l : List AV} {a : Option Addr} {len cap : Nat} (h : RC C (.sl sz l) (Value.slice a len cap).cells.toList) : RV C (.sl sz l) (.slice a len cap) := by
  obtain ⟨v, h1, h2, _⟩ := h.nag rfl
  have : (Value.slice a len cap).cells.toList = [.slice a len cap] := rfl
  rw [this] at h1
  cases h1
  exact h2
theorem rv_struct {C : Cx} {l : List AV} {cs : Array Value} (h : RC C (.agg l) (Value.agg cs).cells.toList) : RV C (.agg l) (.agg cs) := by
  have := RV.agg h.ag
  simpa [Value.cells] using this
/-- What a law's call comes to. -/
theorem law_calls {P : Program} {f : FuncId} {args : List AV} {W : World} {vs : List Value} (hg : Gl (inC W)) (h : CallD P f args noHeap (.raw (.bool true)) noHeap) (hv : RVs (inC W) args vs) : Calls P f vs.toArray W fun e W' => e = .returned (.bool true) ∧ Below W.heap.size W W' := by
  refine Calls.mono (h (inC W) vs (inC_ok W hg) hv) ?_
  rintro e W' ⟨v, C', rfl, rfl, ex, _, hr, _⟩
  cases hr
  exact ⟨rfl, ⟨ex.os, ex.tape, ex.output, ex.size, fun k hk => ex.heap k hk (fun ho => ho.elim)⟩⟩
end Go.Proofs.YtjbbnollidcagaaDoor.Asl

namespace Go.Proofs.YtjbbnollidcagaaDoor.Asl
open Go Go.RowKit
set_option linter.unusedVariables false
set_option linter.unusedSimpArgs false
variable {P : Program} {nt : Nat} {C : Cx} {σ : St} {Q : Exit → St → Prop} {e : Nat → AV} {h h' : Hp}

/-- All that came in is still there. -/
def BigIn (h g : Hp) : Prop := ∀ id, 100000 ≤ id → g id = none → h id = none
@[simp] theorem bigIn_no {g : Hp} : BigIn noHeap g := fun _ _ _ => rfl
theorem bigIn_set {h g : Hp} {u : Nat} {o : Ob} (hu : u < 100000 ∨ g u ≠ none) : BigIn (setH h u o) g ↔ BigIn h g := by
  have key : ∀ id, 100000 ≤ id → g id = none → setH h u o id = h id := fun id h1 h2 => by
    simp only [setH]
    rw [if_neg]
    rintro rfl
    rcases hu with hu | hu
    · omega
    · exact hu h2
  exact ⟨fun hh id h1 h2 => by rw [← key id h1 h2]; exact hh id h1 h2, fun hh id h1 h2 => by rw [key id h1 h2]; exact hh id h1 h2⟩
@[simp] theorem bigIn_small {h g : Hp} {u : Nat} {o : Ob} (hu : u < 100000) : BigIn (setH h u o) g ↔ BigIn h g := bigIn_set (.inl hu)
@[simp] theorem bigIn_in {h g : Hp} {u : Nat} {o : Ob} (hu : ¬ g u = none) : BigIn (setH h u o) g ↔ BigIn h g := bigIn_set (.inr hu)
/-- One value, as a state. -/
def E1 (r : AV) : Nat → AV := fun t => if t = 0 then r else .raw undef
def Fin (h : Hp) (r : AV) (h' : Hp) (r' : AV) : Prop := Weak ⟨E1 r, h⟩ ⟨E1 r', h'⟩
theorem Fin.refl (h : Hp) (r : AV) : Fin h r h r := Weak.refl _
theorem Fin.use {r r' : AV} (hf : Fin h r h' r') {C : Cx} {v : Value} (hh : HOk C h) (hr : RV C r v) : ∃ C2, C2.W = C.W ∧ Ext C C2 ∧ HOk C2 h' ∧ RV C2 r' v := by
  obtain ⟨C2, h1, h2, h3⟩ := hf 1 C { tmps := #[v], defers := [] } ⟨rfl, rfl, fun t => by
    show RV C (E1 r t) _
    unfold E1
    split
    · rename_i h; subst h; exact hr
    · rename_i h
      have : (#[v] : Array Value).getD t undef = undef := by
        rw [Array.getD_eq_getD_getElem?, Array.getElem?_eq_none (by simp; omega)]; rfl
      rw [this]; exact .raw _, hh⟩
  exact ⟨C2, h1, h2, h3.heap, by simpa [E1] using h3.env 0⟩
theorem Fin.drop {r : AV} (hn : Is r.noid true) (hb : BigIn h noHeap) : Fin h r noHeap r := by
  refine Weak.sub (fun id ob hob => by cases hob) hb fun t => .inr ⟨rfl, ?_⟩
  unfold E1
  split
  · exact noid_within.1 r hn
  · rfl
theorem Fin.frz {g : Hp} {r r' : AV} (xs : List AV) (hg : Is (frzA h (AV.rowsOfs xs)) g) (hr : Is (r.deep g) r') (hn : Is r'.noid true) (hb : BigIn g noHeap) : Fin h r noHeap r' := by
  have h1 : Fin h r (deepH g) r' := by
    have := Weak.frz (e := E1 r) (h := h) xs
    rw [hg] at this
    have e : (fun t => (E1 r t).deep g) = E1 r' := by
      funext t
      unfold E1
      split
      · exact hr
      · rfl
    rw [e] at this
    exact this
  exact Weak.trans h1 (Fin.drop hn fun id hid h0 => by simp only [deepH, hb id hid h0]; rfl)
theorem Fin.frzR {g : Hp} {r r' : AV} (hg : Is (frzA h (AV.rowsOf r)) g) (hr : Is (r.deep g) r') (hn : Is r'.noid true) (hb : BigIn g noHeap) : Fin h r noHeap r' :=
  Fin.frz [r] (by simpa [AV.rowsOfs] using hg) hr hn hb
theorem Fin.sub {r : AV} (hsub : ∀ id ob, h' id = some ob → h id = some ob ∧ ob.within h' = true) (hbig : BigIn h h') (hr : Is (r.within h') true) : Fin h r h' r :=
  Weak.sub hsub hbig fun t => .inr ⟨rfl, by
    unfold E1
    split
    · exact hr
    · rfl⟩
theorem Fin.trans {h1 h2 h3 : Hp} {a b c : AV} (x : Fin h1 a h2 b) (y : Fin h2 b h3 c) : Fin h1 a h3 c := Weak.trans x y
/-- A function's contract. -/
theorem calls_go {f : FuncId} {fn : Func} {c : Code} {xs : List AV} {rs : List ResultVar} {r : AV} (hf : P.funcs[f]? = some fn) (hb : fn.body = some c) (hnt : fn.ntmps = nt) (hrs : fn.results.toList = rs) (hxs : xs.length ≤ nt) (hbig : ∀ id, (h id).isSome = true → 100000 ≤ id)
    (hw : ∀ Q : Exit → St → Prop, (∀ σ ex ys r0, (ex = .normal ∨ ex = .ret) → IsO (resAV P σ.env σ.heap rs) ys → Is (outOf ys) r0 → Fin σ.heap r0 h' r → Q ex σ) → (∀ σ σ2 ex, Weak σ σ2 → Q ex σ2 → Q ex σ) → AWP P nt c Q ⟨envOf xs, h⟩) : CallD P f xs h r h' := by
  intro C vs hC hvs
  refine calls_of_wp hf hb ?_
  have hl := hvs.len
  have hs : Sat nt C ⟨envOf xs, h⟩ { tmps := vs.toArray ++ Array.replicate (fn.ntmps - vs.toArray.size) undef, defers := [] } := by
    refine ⟨rfl, by simp [hnt]; omega, fun t => ?_, hC⟩
    simp only [envOf, Array.getD_eq_getD_getElem?, List.getD_eq_getElem?_getD]
    by_cases ht : t < xs.length
    · obtain ⟨v, h1, h2⟩ := hvs.at (List.getElem?_eq_getElem ht)
      rw [Array.getElem?_append_left (by simp; omega), List.getElem?_toArray, h1, List.getElem?_eq_getElem ht]
      exact h2
    · rw [List.getElem?_eq_none (by omega)]
      rw [Array.getElem?_append_right (by simp; omega), Array.getElem?_replicate]
      split <;> exact .raw _
  have hw1 := hw (fun ex σ' => (ex = .normal ∨ ex = .ret) ∧ ∃ σ2 ys, Weak σ' σ2 ∧ resAV P σ2.env σ2.heap fn.results.toList = some ys ∧ Fin σ2.heap (outOf ys) h' r) (fun σ ex ys r0 h1 h2 h3 h4 => ⟨h1, σ, ys, Weak.refl _, by rw [hrs]; exact h2, by rw [h3]; exact h4⟩) (fun σ σ2 ex h1 ⟨h2, σ3, ys, h3, h4⟩ => ⟨h2, σ3, ys, h1.trans h3, h4⟩)
  refine wp_mono (hw1 C C _ (.refl C) hs) ?_
  rintro ex a' W' ⟨σ', C', rfl, ⟨he, σ2, ys, hwk, hres, hfin⟩, ex, sat⟩
  obtain ⟨C2, hW, ex2, sat2⟩ := hwk nt C' a' sat
  obtain ⟨v, hr, hv⟩ := results_run sat2 hres
  rw [hW] at hr
  obtain ⟨C3, hW3, ex3, hh3, hv3⟩ := hfin.use sat2.heap hv
  have exx := (ex.trans ex2).trans ex3
  have hkeep : ∀ id p, C.ι id = some p → C3.ι id = some p := fun id p hp => by
    refine exx.ι id p (hbig id ?_) hp
    cases hi : h id with
    | none => rw [hC.no id hi] at hp; cases hp
    | some _ => rfl
  rcases he with rfl | rfl <;> exact ⟨sat.defers, v, hr, v, C3, rfl, hW3.trans hW, exx, hh3, hv3, hkeep⟩
/-- No row at all. -/
theorem Fin.nil {sz : Nat} (hb : BigIn h noHeap) : Fin h (.raw (.slice none 0 0)) noHeap (.sl sz []) := by
  refine (Fin.drop (h := h) (r := .raw (.slice none 0 0)) rfl hb).trans ?_
  intro nt C a s
  refine ⟨C, rfl, .refl C, s.defers, s.size, fun t => ?_, s.heap⟩
  have := s.env t
  show RV C (E1 (.sl sz []) t) _
  have h2 : RV C (E1 (.raw (.slice none 0 0)) t) (a.tmps.getD t undef) := this
  unfold E1 at h2 ⊢
  split
  · rename_i e
    rw [if_pos e] at h2
    rw [RV.raw_eq h2]; exact .sl0
  · rename_i e
    rw [if_neg e] at h2; exact h2
/-- A row that was made, handed on. -/
theorem Fin.row {k sz n : Nat} {ys : List AV} (hk : IsO (h k) (.arr sz ys)) (hn : Is (AV.noids ys) true) (hlt : k < 100000) (hb : BigIn h noHeap) : Fin h (.ow k sz 0 n) (setH noHeap 99999 (.arr sz ys)) (.ow 99999 sz 0 n) := by
  have h1 : Fin h (.ow k sz 0 n) (setH noHeap k (.arr sz ys)) (.ow k sz 0 n) := by
    refine Fin.sub (fun id ob hid => ?_) (fun id h1 h2 => ?_) ?_
    · simp only [setH_at, noHeap_at] at hid
      split at hid
      · rename_i e; subst e; cases hid
        refine ⟨hk, ?_⟩
        have := (noid_within.2 _ hn)
        have mono : (∀ x : AV, x.noid = true → x.within (setH noHeap id (.arr sz ys)) = true) ∧ ∀ l : List AV, AV.noids l = true → AV.withins (setH noHeap id (.arr sz ys)) l = true := by
          refine ⟨fun x => ?_, fun l => ?_⟩
          · refine AV.rec (motive_1 := fun x => x.noid = true → x.within (setH noHeap id (.arr sz ys)) = true) (motive_2 := fun l => AV.noids l = true → AV.withins (setH noHeap id (.arr sz ys)) l = true) ?_ ?_ ?_ ?_ ?_ ?_ ?_ ?_ ?_ ?_ ?_ ?_ ?_ x <;> intros <;> simp_all [AV.noid, AV.within, AV.noids, AV.withins]
          · refine AV.rec_1 (motive_1 := fun x => x.noid = true → x.within (setH noHeap id (.arr sz ys)) = true) (motive_2 := fun l => AV.noids l = true → AV.withins (setH noHeap id (.arr sz ys)) l = true) ?_ ?_ ?_ ?_ ?_ ?_ ?_ ?_ ?_ ?_ ?_ ?_ ?_ l <;> intros <;> simp_all [AV.noid, AV.within, AV.noids, AV.withins]
        exact mono.2 _ hn
      · cases hid
    · exact hb id h1 rfl
    · show (AV.within _ (.ow k sz 0 n)) = true
      simp [AV.within, setH]
  refine h1.trans ?_
  have h2 := Weak.ren (e := E1 (.ow k sz 0 n)) (h := setH noHeap k (.arr sz ys)) (sw_sw k 99999) (sw_sw k 99999) (fun i hi => by unfold sw; rw [if_neg (by omega), if_neg (by omega)])
  rw [renH_set, renH_no] at h2
  have e1 : (fun t => (E1 (.ow k sz 0 n) t).ren (sw k 99999)) = E1 (.ow 99999 sz 0 n) := by
    funext t
    unfold E1
    split
    · simp [AV.ren, sw]
    · rfl
  have e2 : (Ob.arr sz ys).ren (sw k 99999) = .arr sz ys := by simp [Ob.ren, noid_ren.2 _ hn]
  rw [e1, e2] at h2
  simp only [sw, if_true] at h2
  exact h2
/-- What a function hands back, told with less. -/
theorem CallD.fin {f : FuncId} {xs : List AV} {r r' : AV} {h0 h1 h2 : Hp} (hbig : ∀ id, (h0 id).isSome = true → 100000 ≤ id) (hc : CallD P f xs h0 r h1) (hf : Fin h1 r h2 r') : CallD P f xs h0 r' h2 := by
  intro C vs hC hvs
  refine Calls.mono (hc C vs hC hvs) ?_
  rintro en W' ⟨v, C', rfl, rfl, ex, hok, hrv, hk⟩
  obtain ⟨C2, e1, e2, e3, e4⟩ := hf.use hok hrv
  refine ⟨v, C2, rfl, e1, ex.trans e2, e3, e4, fun id p hp => e2.ι id p (hbig id ?_) (hk id p hp)⟩
  cases hi : h0 id with
  | none => rw [hC.no id hi] at hp; cases hp
  | some _ => rfl
/-- A row that was made, told by its content. -/
theorem CallD.told {f : FuncId} {xs : List AV} {sz n : Nat} {ys : List AV} (hc : CallD P f xs noHeap (.ow 99999 sz 0 n) (setH noHeap 99999 (.arr sz ys))) (hy : AV.noids ys = true) (hn : n ≤ ys.length) : CallD P f xs noHeap (.sl sz (ys.take n)) noHeap := by
  have hde : AV.deeps (setH noHeap 99999 (.arr sz ys)) ys = ys := by
    have : (∀ x : AV, x.noid = true → ∀ g, x.deep g = x) ∧ ∀ l : List AV, AV.noids l = true → ∀ g, AV.deeps g l = l := by
      refine ⟨fun x => ?_, fun l => ?_⟩
      · refine AV.rec (motive_1 := fun x => x.noid = true → ∀ g, x.deep g = x) (motive_2 := fun l => AV.noids l = true → ∀ g, AV.deeps g l = l) ?_ ?_ ?_ ?_ ?_ ?_ ?_ ?_ ?_ ?_ ?_ ?_ ?_ x <;> intros <;> simp_all [AV.noid, AV.deep, AV.noids, AV.deeps]
      · refine AV.rec_1 (motive_1 := fun x => x.noid = true → ∀ g, x.deep g = x) (motive_2 := fun l => AV.noids l = true → ∀ g, AV.deeps g l = l) ?_ ?_ ?_ ?_ ?_ ?_ ?_ ?_ ?_ ?_ ?_ ?_ ?_ l <;> intros <;> simp_all [AV.noid, AV.deep, AV.noids, AV.deeps]
    exact this.2 _ hy _
  have hro : AV.rowsOfs ys = [] := by
    have : (∀ x : AV, x.noid = true → x.rowsOf = []) ∧ ∀ l : List AV, AV.noids l = true → AV.rowsOfs l = [] := by
      refine ⟨fun x => ?_, fun l => ?_⟩
      · refine AV.rec (motive_1 := fun x => x.noid = true → x.rowsOf = []) (motive_2 := fun l => AV.noids l = true → AV.rowsOfs l = []) ?_ ?_ ?_ ?_ ?_ ?_ ?_ ?_ ?_ ?_ ?_ ?_ ?_ x <;> intros <;> simp_all [AV.noid, AV.rowsOf, AV.noids, AV.rowsOfs]
      · refine AV.rec_1 (motive_1 := fun x => x.noid = true → x.rowsOf = []) (motive_2 := fun l => AV.noids l = true → AV.rowsOfs l = []) ?_ ?_ ?_ ?_ ?_ ?_ ?_ ?_ ?_ ?_ ?_ ?_ ?_ l <;> intros <;> simp_all [AV.noid, AV.rowsOf, AV.noids, AV.rowsOfs]
    exact this.2 _ hy
  have hy' : AV.noids (ys.take n) = true := AV.noids_iff.2 fun x hx => AV.noids_iff.1 hy x (List.mem_of_mem_take hx)
  refine hc.fin (fun id h => by cases h) (Fin.frz (g := setH noHeap 99999 (.fz sz ys)) [.ow 99999 sz 0 n] ?_ ?_ (r' := .sl sz (ys.take n)) ?_ (by simp))
  · simp only [AV.rowsOfs, AV.rowsOf, List.append_nil, frzA, frzX, setH_at, if_true, hro, frzL, frzY, hde, hy]
    funext id
    simp only [setH]
    split <;> rfl
  · simp [Is, AV.deep, seeF, hn]
  · simp [Is, AV.noid]
/-- A call that is handed one variable. -/
theorem w_callP {ops : Array Oper} {l : List Oper} {K : (Nat → AV) → Hp → Prop} {ty' : TypeId} {pos : String} {af : Array Edge} {dd : Option Tmp} {args : Array Operand} {ats : Array TypeId} {x : Operand} {f : FuncId} {xs ys xs' : List AV} {X X' r r' : AV} {g : Hp} (p : Nat)
    (hp : Is (plainCall P ⟨.value x, args, ats⟩) false) (ha : IsO (argsOf (evE e) x args) (f, xs)) (hf : Is (isFn P f) true) (hfr : Is (frzA h (AV.rowsOfs xs)) g) (hys : Is (AV.deeps g xs) ys) (hX : IsO (g p) (.box X)) (hn : Is X.noid true) (hxs : Is (AV.rens (sw 100000 p) ys) xs') (hw : Is (AV.withins (setH noHeap p (.box X)) ys) true)
    (hcall : CallD P f xs' (setH noHeap 100000 (.box X)) r' (setH noHeap 100000 (.box X'))) (hn' : Is X'.noid true) (hr' : Is (r'.ren (sw 100000 p)) r) (htg : Is (xs.any (fun y => decide (y.tagP = none)) || xs.any (fun y => decide (y.tagP = some (some p)))) true) (hr : RunK P ops l (putE e dd r) (setH g p (.box X')) K) : RunK P ops (⟨dd, .call ⟨.value x, args, ats⟩, ty', pos, af, none⟩ :: l) e h K := by
  have hc := hcall.sw 100000 p
  rw [← hxs, AV.rens_rens (sw_sw _ _)] at hc
  rw [hr'] at hc
  have hsp : sw 100000 p 100000 = p := by simp [sw]
  have e1 : ∀ Y : AV, Y.noid = true → renH (sw 100000 p) (sw 100000 p) (setH noHeap 100000 (.box Y)) = setH noHeap p (.box Y) := by
    intro Y hY
    rw [renH_set, renH_no, hsp]
    show setH noHeap p (.box (Y.ren _)) = _
    rw [noid_ren.1 _ hY]
  rw [e1 X hn, e1 X' hn'] at hc
  have hwX : X.within (setH noHeap p (.box X)) = true := by
    have : (∀ x : AV, x.noid = true → x.within (setH noHeap p (.box X)) = true) := by
      intro x
      refine AV.rec (motive_1 := fun x => x.noid = true → x.within (setH noHeap p (.box X)) = true) (motive_2 := fun l => AV.noids l = true → AV.withins (setH noHeap p (.box X)) l = true) ?_ ?_ ?_ ?_ ?_ ?_ ?_ ?_ ?_ ?_ ?_ ?_ ?_ x <;> intros <;> simp_all [AV.noid, AV.within, AV.noids, AV.withins]
    exact this X hn
  refine w_callS (hs := setH noHeap p (.box X)) (hs' := setH noHeap p (.box X')) hp ha hf hfr hys ?_ hw hc ?_ ?_ ?_ hr
  · intro id ob hid
    simp only [setH_at, noHeap_at] at hid
    split at hid
    · rename_i hi; subst hi; cases hid
      exact ⟨hX, hwX⟩
    · cases hid
  · intro id hid
    simp only [setH_at, noHeap_at] at hid ⊢
    split at hid
    · rename_i hi; subst hi; exact .inl (by simp)
    · cases hid
  · funext id
    simp only [backH, setH_at, noHeap_at]
    by_cases hi : id = p <;> simp [hi]
  · intro ht
    unfold Is at htg
    refine ⟨fun id hi => ?_, fun id hi => .inl ?_⟩
    · simp only [setH_at, noHeap_at] at hi
      split at hi
      · rename_i e; subst e
        rw [Bool.or_eq_true] at htg
        rcases htg with htg | htg
        · obtain ⟨x, hx, h2⟩ := List.any_eq_true.1 htg
          exact absurd (of_decide_eq_true h2) (ht x hx)
        · obtain ⟨x, hx, h2⟩ := List.any_eq_true.1 htg
          exact ⟨x, hx, of_decide_eq_true h2⟩
      · cases hi
    · simp only [setH_at, noHeap_at] at hi ⊢
      split at hi
      · rename_i e; rw [if_pos e]; rfl
      · cases hi
@[simp] theorem size_mk (a : Array UInt8) : (ByteArray.mk a).size = a.size := rfl
@[simp] theorem AV.tagP_ptr {p o : Nat} : (AV.ptr p o).tagP = if p ≤ 100000 then some (some p) else none := rfl
@[simp] theorem AV.tagP_raw {v : Value} : (AV.raw v).tagP = some none := rfl
@[simp] theorem AV.tagP_sl {sz : Nat} {l : List AV} : (AV.sl sz l).tagP = some none := rfl
@[simp] theorem AV.tagP_fp {x : AV} : (AV.fp x).tagP = some none := rfl
@[simp] theorem AV.tagP_agg {l : List AV} : (AV.agg l).tagP = if AV.noids l = true then some none else none := rfl
@[simp] theorem AV.tagP_ifc {t : TypeId} {x : AV} : (AV.ifc t x).tagP = if x.noid = true then some none else none := rfl
@[simp] theorem AV.tagP_ow {id s o n : Nat} : (AV.ow id s o n).tagP = none := rfl
@[simp] theorem AV.tagP_ep {id s i o : Nat} : (AV.ep id s i o).tagP = none := rfl
@[simp] theorem AV.tagP_tup {l : List AV} : (AV.tup l).tagP = none := rfl
@[simp] theorem AV.tagP_fn {f : Fn} {l m : List AV} : (AV.fn f l m).tagP = none := rfl
@[simp] theorem AV.tagP_any : AV.any.tagP = none := rfl
attribute [simp] plainCall argsOf AV.within AV.withins Ob.within
attribute [simp] frzA frzX frzY AV.rowsOf AV.rowsOfs resAV outOf frzL frz1 seeF AV.noid AV.noids AV.deep AV.deeps
end Go.Proofs.YtjbbnollidcagaaDoor.Asl

namespace Go.Proofs.YtjbbnollidcagaaDoor.Asl
open Go Go.RowKit
set_option linter.unusedVariables false
set_option linter.unusedSimpArgs false
def bytesOf (s : ByteArray) : List Int := s.data.toList.map fun b => (b.toNat : Int)
def strOfNums (xs : List Int) : ByteArray := ⟨(xs.map fun n => UInt8.ofNat n.toNat).toArray⟩
/-- Every element is a byte. -/
def IsB (l : List Int) : Prop := ∀ b ∈ l, 0 ≤ b ∧ b ≤ 255
theorem isB_nil : IsB [] := fun b h => by cases h
theorem isB_cons {b : Int} {l : List Int} : IsB (b :: l) ↔ (0 ≤ b ∧ b ≤ 255) ∧ IsB l := by
  simp [IsB]
theorem isB_app {a b : List Int} : IsB (a ++ b) ↔ IsB a ∧ IsB b := by
  simp only [IsB, List.mem_append]
  exact ⟨fun h => ⟨fun x hx => h x (.inl hx), fun x hx => h x (.inr hx)⟩, fun h x hx => hx.elim (h.1 x) (h.2 x)⟩
theorem isB_take {a : List Int} (h : IsB a) (n : Nat) : IsB (a.take n) := fun b hb => h b (List.mem_of_mem_take hb)
theorem isB_bytes (s : ByteArray) : IsB (bytesOf s) := by
  intro b hb
  obtain ⟨u, _, rfl⟩ := List.mem_map.1 hb
  have := u.toNat_lt
  omega
theorem len_bytes (s : ByteArray) : (bytesOf s).length = s.size := by rw [bytesOf, List.length_map, Array.length_toList]; rfl
theorem toList_data (s : ByteArray) : s.toList = s.data.toList := ByteArray.toList_eq s
theorem map_inj : ∀ {a b : List UInt8}, a.map (fun b => (b.toNat : Int)) = b.map (fun b => (b.toNat : Int)) → a = b
  | [], [], _ => rfl
  | [], _ :: _, h => by simp at h
  | _ :: _, [], h => by simp at h
  | x :: a, y :: b, h => by
    simp only [List.map_cons, List.cons.injEq] at h
    have h1 : x = y := UInt8.toNat_inj.1 (by omega)
    rw [h1, map_inj h.2]
theorem bytes_inj {s t : ByteArray} (h : bytesOf s = bytesOf t) : s = t := by
  have := map_inj h
  apply ByteArray.ext
  exact Array.toList_inj.1 this
theorem bytes_app (s t : ByteArray) : bytesOf (s ++ t) = bytesOf s ++ bytesOf t := by
  simp [bytesOf, ByteArray.data_append]
theorem bytes_of_nums {xs : List Int} (h : IsB xs) : bytesOf (strOfNums xs) = xs := by
  simp only [bytesOf, strOfNums, List.map_map]
  conv => rhs; rw [← List.map_id xs]
  apply List.map_congr_left
  intro b hb
  have := h b hb
  simp only [Function.comp, id, UInt8.toNat_ofNat']
  omega
theorem size_of_nums (xs : List Int) : (strOfNums xs).size = xs.length := by
  rw [← len_bytes]; simp [bytesOf, strOfNums]
theorem byteAt_at (s : ByteArray) (j : Nat) : byteAt s (j : Int) = ((bytesOf s)[j]?).getD 0 := by
  unfold byteAt bytesOf
  simp
theorem byteAt_range (s : ByteArray) (i : Int) : 0 ≤ byteAt s i ∧ byteAt s i ≤ 255 := by
  unfold byteAt
  cases s.data.toList[i.toNat]? with
  | none => simp
  | some u => have := u.toNat_lt; simp; omega
theorem bt_nat (s : ByteArray) (n : Nat) (h : n < s.size) : (bytesOf s)[n]? = some (byteAt s (n : Int)) := by
  rw [byteAt_at, List.getElem?_eq_getElem (by rw [len_bytes]; exact h)]; rfl
theorem drop_byte (s : ByteArray) (n : Nat) (h : n < s.size) : (bytesOf s).drop n = byteAt s (n : Int) :: (bytesOf s).drop (n + 1) := by
  have h' : n < (bytesOf s).length := by rw [len_bytes]; exact h
  rw [List.drop_eq_getElem_cons h']
  have := bt_nat s n h
  rw [List.getElem?_eq_getElem h'] at this
  rw [Option.some.inj this]
/-! numbers -/
theorem wf_i64 {x : Int} (h : (Lit.int .i64 x).wf = true) : -9223372036854775808 ≤ x ∧ x ≤ 9223372036854775807 := by
  simp [Lit.wf, IntKind.min, IntKind.max, IntKind.bits, IntKind.signed] at h; omega
/-! lists of numbers in order -/
def ltb : List Int → List Int → Bool
  | _, [] => false
  | [], _ :: _ => true
  | a :: x, b :: y => decide (a < b) || (a == b && ltb x y)
theorem less_ltb : ∀ a b : List UInt8, Op.bytesLess a b = ltb (a.map (fun b => (b.toNat : Int))) (b.map (fun b => (b.toNat : Int)))
  | [], [] => rfl
  | [], _ :: _ => rfl
  | _ :: _, [] => rfl
  | x :: a, y :: b => by
    simp only [Op.bytesLess, List.map_cons, ltb]
    rw [less_ltb a b]
    congr 1
    · exact decide_eq_decide.2 (by rw [UInt8.lt_iff_toNat_lt]; omega)
    · congr 1
      rw [Bool.eq_iff_iff, beq_iff_eq, beq_iff_eq, ← UInt8.toNat_inj]; omega
theorem less_bytes (s t : ByteArray) : Op.bytesLess s.toList t.toList = ltb (bytesOf s) (bytesOf t) := by
  rw [toList_data, toList_data]; exact less_ltb _ _
theorem ltb_nil (x : List Int) : ltb x [] = false := by cases x <;> rfl
theorem ltb_irr : ∀ x : List Int, ltb x x = false
  | [] => rfl
  | a :: x => by simp [ltb, ltb_irr x]
theorem ltb_cons (a : Int) (x y : List Int) : ltb (a :: x) (a :: y) = ltb x y := by simp [ltb]
theorem ltb_lt {a b : Int} (h : a < b) (x y : List Int) : ltb (a :: x) (b :: y) = true := by simp [ltb, h]
theorem ltb_gt {a b : Int} (h : b < a) (x y : List Int) : ltb (a :: x) (b :: y) = false := by
  have h1 : ¬ a < b := by omega
  have h2 : (a == b) = false := by simp; omega
  simp [ltb, h1, h2]
theorem ltb_total : ∀ x y : List Int, ltb x y = false → ltb y x = false → x = y
  | [], [], _, _ => rfl
  | [], _ :: _, h, _ => by simp [ltb] at h
  | _ :: _, [], _, h => by simp [ltb] at h
  | a :: x, b :: y, h, h' => by
    rcases Int.lt_trichotomy a b with h1 | h1 | h1
    · rw [ltb_lt h1] at h; cases h
    · subst h1
      rw [ltb_cons] at h h'
      rw [ltb_total x y h h']
    · rw [ltb_lt h1] at h'; cases h'
theorem ltb_asymm : ∀ x y : List Int, ltb x y = true → ltb y x = false
  | [], [], _ => rfl
  | [], _ :: _, _ => rfl
  | _ :: _, [], h => by simp [ltb] at h
  | a :: x, b :: y, h => by
    rcases Int.lt_trichotomy a b with h1 | h1 | h1
    · exact ltb_gt h1 _ _
    · subst h1
      rw [ltb_cons] at h ⊢
      exact ltb_asymm x y h
    · rw [ltb_gt h1] at h; cases h
theorem ltb_trans : ∀ x y z : List Int, ltb x y = true → ltb y z = true → ltb x z = true
  | _, _, [], _, h => by rw [ltb_nil] at h; cases h
  | _, [], _ :: _, h, _ => by rw [ltb_nil] at h; cases h
  | [], _ :: _, _ :: _, _, _ => rfl
  | a :: x, b :: y, c :: z, h, h' => by
    rcases Int.lt_trichotomy a b with h1 | h1 | h1
    · rcases Int.lt_trichotomy b c with h2 | h2 | h2
      · exact ltb_lt (by omega) _ _
      · exact ltb_lt (by omega) _ _
      · rw [ltb_gt h2] at h'; cases h'
    · subst h1
      rcases Int.lt_trichotomy a c with h2 | h2 | h2
      · exact ltb_lt (by omega) _ _
      · subst h2
        rw [ltb_cons] at h h' ⊢
        exact ltb_trans x y z h h'
      · rw [ltb_gt h2] at h'; cases h'
    · rw [ltb_gt h1] at h; cases h

end Go.Proofs.YtjbbnollidcagaaDoor.Asl

namespace Go.Proofs.YtjbbnollidcagaaDoor.Asl
open Go Go.RowKit
set_option linter.unusedVariables false
set_option linter.unusedSimpArgs false
def u8 (n : Int) : AV := .raw (.int .u8 n)
def u8s (l : List Int) : List AV := l.map fun n => .raw (.int .u8 n)
@[simp] theorem u8s_len (l : List Int) : (u8s l).length = l.length := by simp [u8s]
@[simp] theorem u8s_app (l m : List Int) : u8s l ++ u8s m = u8s (l ++ m) := by simp [u8s]
@[simp] theorem u8s_app1 (l : List Int) (x : Int) : u8s l ++ [.raw (.int .u8 x)] = u8s (l ++ [x]) := by simp [u8s]
@[simp] theorem u8s_app2 (l : List Int) (x y : Int) : u8s l ++ [.raw (.int .u8 x), .raw (.int .u8 y)] = u8s (l ++ [x, y]) := by simp [u8s]
@[simp] theorem u8s_take (l : List Int) (n : Nat) : (u8s l).take n = u8s (l.take n) := by simp [u8s, List.map_take]
@[simp] theorem u8s_drop (l : List Int) (n : Nat) : (u8s l).drop n = u8s (l.drop n) := by simp [u8s, List.map_drop]
@[simp] theorem u8s_get (l : List Int) (i : Nat) : (u8s l)[i]? = (l[i]?).map fun n => AV.raw (.int .u8 n) := by simp [u8s]
@[simp] theorem u8s_set (l : List Int) (i : Nat) (x : Int) : (u8s l).set i (.raw (.int .u8 x)) = u8s (l.set i x) := by simp [u8s, List.map_set]
@[simp] theorem u8s_noids (l : List Int) : AV.noids (u8s l) = true := by
  rw [AV.noids_iff]; intro x hx
  obtain ⟨n, _, rfl⟩ := List.mem_map.1 hx
  rfl
@[simp] theorem u8s_withins (h : Hp) (l : List Int) : AV.withins h (u8s l) = true := by
  induction l with
  | nil => rfl
  | cons x l ih => simpa [u8s, AV.withins, AV.within] using ih
@[simp] theorem u8s_rens (π : Nat → Nat) (l : List Int) : AV.rens π (u8s l) = u8s l := by
  induction l with
  | nil => rfl
  | cons x l ih => simpa [u8s, AV.rens, AV.ren] using ih
@[simp] theorem u8s_deeps (h : Hp) (l : List Int) : AV.deeps h (u8s l) = u8s l := by
  induction l with
  | nil => rfl
  | cons x l ih => simpa [u8s, AV.deeps, AV.deep] using ih
theorem noid_deep : (∀ x : AV, x.noid = true → ∀ g, x.deep g = x) ∧ ∀ l : List AV, AV.noids l = true → ∀ g, AV.deeps g l = l := by
  refine ⟨fun x => ?_, fun l => ?_⟩
  · refine AV.rec (motive_1 := fun x => x.noid = true → ∀ g, x.deep g = x) (motive_2 := fun l => AV.noids l = true → ∀ g, AV.deeps g l = l) ?_ ?_ ?_ ?_ ?_ ?_ ?_ ?_ ?_ ?_ ?_ ?_ ?_ x <;> intros <;> simp_all [AV.noid, AV.deep, AV.noids, AV.deeps]
  · refine AV.rec_1 (motive_1 := fun x => x.noid = true → ∀ g, x.deep g = x) (motive_2 := fun l => AV.noids l = true → ∀ g, AV.deeps g l = l) ?_ ?_ ?_ ?_ ?_ ?_ ?_ ?_ ?_ ?_ ?_ ?_ ?_ l <;> intros <;> simp_all [AV.noid, AV.deep, AV.noids, AV.deeps]
theorem noid_withins (h : Hp) : (∀ x : AV, x.noid = true → x.within h = true) ∧ ∀ l : List AV, AV.noids l = true → AV.withins h l = true := by
  refine ⟨fun x => ?_, fun l => ?_⟩
  · refine AV.rec (motive_1 := fun x => x.noid = true → x.within h = true) (motive_2 := fun l => AV.noids l = true → AV.withins h l = true) ?_ ?_ ?_ ?_ ?_ ?_ ?_ ?_ ?_ ?_ ?_ ?_ ?_ x <;> intros <;> simp_all [AV.noid, AV.within, AV.noids, AV.withins]
  · refine AV.rec_1 (motive_1 := fun x => x.noid = true → x.within h = true) (motive_2 := fun l => AV.noids l = true → AV.withins h l = true) ?_ ?_ ?_ ?_ ?_ ?_ ?_ ?_ ?_ ?_ ?_ ?_ ?_ l <;> intros <;> simp_all [AV.noid, AV.within, AV.noids, AV.withins]
@[simp] theorem u8s_rows (l : List Int) : AV.rowsOfs (u8s l) = [] := noid_rows.2 _ (u8s_noids l)
@[simp] theorem u8s_sizes (l : List Int) : AV.sizes (u8s l) = l.length := by
  induction l with
  | nil => rfl
  | cons x l ih => simp only [u8s, List.map_cons, AV.sizes, AV.size, List.length_cons] at ih ⊢; omega
@[simp] theorem cells_u8s (b : ByteArray) : strCellsAV b = u8s (bytesOf b) := by simp [strCellsAV, u8s, bytesOf]
theorem u8s_size1 (l : List Int) : ∀ x ∈ u8s l, x.size = 1 := by
  intro x hx
  obtain ⟨n, _, rfl⟩ := List.mem_map.1 hx
  simp
theorem setL_u8s {x : Int} : ∀ (l : List Int) (i : Nat), i < l.length → AV.setL 1 (.raw (.int .u8 x)) (u8s l) i = some (u8s (l.set i x))
  | [], i, h => by simp at h
  | y :: l, 0, h => by simp [u8s, AV.setL, AV.set]
  | y :: l, i + 1, h => by
    have := setL_u8s (x := x) l i (by simpa using h)
    show AV.setL 1 _ (AV.raw (.int .u8 y) :: u8s l) (i + 1) = _
    rw [AV.setL, if_neg (by simp [AV.size]), show i + 1 - (AV.raw (.int .u8 y)).size = i by simp [AV.size], this]
    rfl
theorem getL_u8s : ∀ (l : List Int) (i : Nat), AV.getL 1 false (u8s l) i = (l[i]?).map fun n => AV.raw (.int .u8 n)
  | [], i => by simp [u8s]
  | y :: l, 0 => by simp [u8s]
  | y :: l, i + 1 => by
    have := getL_u8s l i
    show AV.getL 1 false (AV.raw (.int .u8 y) :: u8s l) (i + 1) = _
    rw [AV.getL, if_neg (by simp [AV.size]), show i + 1 - (AV.raw (.int .u8 y)).size = i by simp [AV.size], this]
    rfl
@[simp] theorem strOf_u8s : ∀ l : List Int, Asl.strOf (u8s l) = some (l.map fun n => UInt8.ofNat n.toNat)
  | [] => rfl
  | x :: l => by
    have := strOf_u8s l
    simp only [u8s, List.map_cons, Asl.strOf, byteOf] at this ⊢
    rw [this]
@[simp] theorem take_snoc {α : Type} (l : List α) (x : α) : List.take (l.length + 1) (l ++ [x]) = l ++ [x] := List.take_of_length_le (by simp)
theorem Fin.imp {h : Hp} {r r' : AV} (hi : ∀ C v, RV C r v → RV C r' v) : Fin h r h r' := fun nt C a s =>
  ⟨C, rfl, .refl C, s.defers, s.size, fun t => by
    have h2 : RV C (E1 r t) (a.tmps.getD t undef) := s.env t
    show RV C (E1 r' t) _
    unfold E1 at h2 ⊢
    split
    · rename_i e; rw [if_pos e] at h2; exact hi C _ h2
    · rename_i e; rw [if_neg e] at h2; exact h2, s.heap⟩
theorem nums_eq (l : List Int) : (⟨(l.map fun n => UInt8.ofNat n.toNat).toArray⟩ : ByteArray) = strOfNums l := rfl
end Go.Proofs.YtjbbnollidcagaaDoor.Asl

namespace Go.Proofs.YtjbbnollidcagaaDoor.Asl
open Go Go.RowKit
set_option linter.unusedVariables false
set_option linter.unusedSimpArgs false
variable {P : Program} {nt : Nat} {C : Cx} {σ : St} {Q : Exit → St → Prop} {e : Nat → AV} {h h' : Hp}
@[simp] theorem setL_u8s' {x : Int} (l : List Int) (i : Nat) : AV.setL 1 (.raw (.int .u8 x)) (u8s l) i = if i < l.length then some (u8s (l.set i x)) else none := by
  by_cases hi : i < l.length
  · rw [if_pos hi, setL_u8s l i hi]
  · rw [if_neg hi]
    induction l generalizing i with
    | nil => simp [u8s]
    | cons y l ih =>
      cases i with
      | zero => simp at hi
      | succ i =>
        show AV.setL 1 _ (AV.raw (.int .u8 y) :: u8s l) (i + 1) = _
        rw [AV.setL, if_neg (by simp [AV.size]), show i + 1 - (AV.raw (.int .u8 y)).size = i by simp [AV.size], ih i (by simpa using hi)]
        rfl
attribute [simp] getL_u8s
def hpL : List (Nat × Ob) → Hp
  | [], _ => none
  | (u, o) :: l, i => if i = u then some o else hpL l i
@[simp] theorem hpL_nil {i : Nat} : hpL [] i = none := rfl
@[simp] theorem hpL_cons {u i : Nat} {o : Ob} {l : List (Nat × Ob)} : hpL ((u, o) :: l) i = if i = u then some o else hpL l i := rfl
theorem hpL_mem : ∀ {l : List (Nat × Ob)} {i : Nat} {o : Ob}, hpL l i = some o → (i, o) ∈ l
  | (u, q) :: l, i, o, hh => by
    simp only [hpL] at hh
    split at hh
    · rename_i e; subst e; cases hh; simp
    · exact List.mem_cons_of_mem _ (hpL_mem hh)
@[simp] theorem bigIn_nil {g : Hp} : BigIn (hpL []) g := fun _ _ _ => rfl
theorem hpL_setH {u : Nat} {o : Ob} {l : List (Nat × Ob)} : hpL ((u, o) :: l) = setH (hpL l) u o := rfl
@[simp] theorem bigIn_small' {l : List (Nat × Ob)} {g : Hp} {u : Nat} {o : Ob} (hu : u < 100000) : BigIn (hpL ((u, o) :: l)) g ↔ BigIn (hpL l) g := bigIn_set (.inl hu)
@[simp] theorem bigIn_in' {l : List (Nat × Ob)} {g : Hp} {u : Nat} {o : Ob} (hu : ¬ g u = none) : BigIn (hpL ((u, o) :: l)) g ↔ BigIn (hpL l) g := bigIn_set (.inr hu)
@[simp] theorem renH_nil {a b : Nat} : renH (sw a b) (sw a b) (hpL []) = hpL [] := rfl
@[simp] theorem renH_cons {a b u : Nat} {o : Ob} {l : List (Nat × Ob)} : renH (sw a b) (sw a b) (hpL ((u, o) :: l)) = setH (renH (sw a b) (sw a b) (hpL l)) (sw a b u) (o.ren (sw a b)) := by rw [hpL_setH, renH_set]
theorem awp_inv {c : Code} {α : Type} (tmps : α → List (Nat × AV)) (heap : α → Hp) (ok : α → Prop) (dec : α → Nat) (a0 : α) (h0 : ok a0) (hl : Weak ⟨e, h⟩ ⟨envA (tmps a0), heap a0⟩)
    (round : ∀ a, ok a → AWP P nt c (Then (fun σ' => ∃ a', dec a' < dec a ∧ ok a' ∧ Weak σ' ⟨envA (tmps a'), heap a'⟩) Q) ⟨envA (tmps a), heap a⟩) : AWP P nt (.loop c) Q ⟨e, h⟩ := by
  refine awp_loop (fun m σ => ∃ a, dec a = m ∧ ok a ∧ Weak σ ⟨envA (tmps a), heap a⟩) (n := dec a0) ⟨a0, rfl, h0, hl⟩ ?_
  rintro n σ ⟨a, rfl, ha, hw⟩
  refine AWP.weak hw ((round a ha).mono ?_)
  intro ex σ' hq
  cases ex with
  | normal =>
    obtain ⟨a', h1, h2, h3⟩ := hq
    exact ⟨_, h1, a', rfl, h2, h3⟩
  | _ => exact hq
end Go.Proofs.YtjbbnollidcagaaDoor.Asl

namespace Go.Proofs.YtjbbnollidcagaaDoor.Asl
open Go Go.RowKit
set_option linter.unusedVariables false
set_option linter.unusedSimpArgs false
variable {P : Program} {nt : Nat} {e : Nat → AV} {h h' : Hp} {K : (Nat → AV) → Hp → Prop} {ops : Array Oper} {l : List Oper} {ty' : TypeId} {pos : String} {af : Array Edge} {dd : Option Tmp}

theorem wrap_u64 {x : Int} (h1 : 0 ≤ x) (h2 : x < 18446744073709551616) : IntKind.wrap .u64 x = x := by
  simp [IntKind.wrap, IntKind.bits, IntKind.signed]; omega
theorem wrap_i32 {x : Int} (h1 : -2147483648 ≤ x) (h2 : x < 2147483648) : IntKind.wrap .i32 x = x := by
  simp [IntKind.wrap, IntKind.bits, IntKind.signed]; omega
theorem wrap_u64' (x : Int) : IntKind.wrap .u64 x = x % 18446744073709551616 := by simp [IntKind.wrap, IntKind.bits, IntKind.signed]
def andI (k : IntKind) (x y : Int) : Int := k.wrap ((BitVec.ofInt k.bits x) &&& (BitVec.ofInt k.bits y)).toNat
def orI (k : IntKind) (x y : Int) : Int := k.wrap ((BitVec.ofInt k.bits x) ||| (BitVec.ofInt k.bits y)).toNat
def shrI (k : IntKind) (x y : Int) : Int := x / 2 ^ (min y.toNat k.bits)
def shlI (k : IntKind) (x y : Int) : Int := k.wrap (x * 2 ^ (min y.toNat k.bits))
theorem mask_nat (m a : Nat) : a &&& (2 ^ m - 1) = a % 2 ^ m := Nat.and_two_pow_sub_one_eq_mod a m
theorem andI_u64 (x : Int) (m : Nat) (hm : m ≤ 64) : andI .u64 x (2 ^ m - 1 : Nat) = x % (2 ^ m : Nat) := by
  have hp : (2 : Nat) ^ m ≤ 2 ^ 64 := Nat.pow_le_pow_right (by decide) hm
  have h1 : 0 < 2 ^ m := Nat.two_pow_pos m
  unfold andI
  rw [BitVec.toNat_and, BitVec.toNat_ofInt, BitVec.toNat_ofInt]
  simp only [IntKind.bits]
  have e : (((2 ^ m - 1 : Nat) : Int) % ((2 ^ 64 : Nat) : Int)).toNat = 2 ^ m - 1 := by
    rw [Int.emod_eq_of_lt (by omega) (by omega)]; omega
  rw [e, mask_nat, wrap_u64 (by omega) (by have := Nat.mod_lt (x % ((2 ^ 64 : Nat) : Int)).toNat h1; omega)]
  rw [Int.natCast_emod, Int.toNat_of_nonneg (Int.emod_nonneg _ (by decide))]
  exact Int.emod_emod_of_dvd _ (Int.natCast_dvd_natCast.2 (Nat.pow_dvd_pow 2 hm))
@[simp] theorem and15_u64 (x : Int) : andI .u64 x 15 = x % 16 := andI_u64 x 4 (by decide)
@[simp] theorem and1_u64 (x : Int) : andI .u64 x 1 = x % 2 := andI_u64 x 1 (by decide)
theorem andI_u8 (x : Int) (m : Nat) (hm : m ≤ 8) : andI .u8 x (2 ^ m - 1 : Nat) = x % (2 ^ m : Nat) := by
  have hp : (2 : Nat) ^ m ≤ 2 ^ 8 := Nat.pow_le_pow_right (by decide) hm
  have h1 : 0 < 2 ^ m := Nat.two_pow_pos m
  unfold andI
  rw [BitVec.toNat_and, BitVec.toNat_ofInt, BitVec.toNat_ofInt]
  simp only [IntKind.bits]
  have e : (((2 ^ m - 1 : Nat) : Int) % ((2 ^ 8 : Nat) : Int)).toNat = 2 ^ m - 1 := by
    rw [Int.emod_eq_of_lt (by omega) (by omega)]; omega
  rw [e, mask_nat, wrap_u8 (by omega) (by have := Nat.mod_lt (x % ((2 ^ 8 : Nat) : Int)).toNat h1; omega)]
  rw [Int.natCast_emod, Int.toNat_of_nonneg (Int.emod_nonneg _ (by decide))]
  exact Int.emod_emod_of_dvd _ (Int.natCast_dvd_natCast.2 (Nat.pow_dvd_pow 2 hm))
@[simp] theorem and127_u8 (x : Int) : andI .u8 x 127 = x % 128 := andI_u8 x 7 (by decide)
set_option maxRecDepth 100000 in
theorem or128_nat : ∀ a, a < 256 → a ||| 128 = a % 128 + 128 := by decide
@[simp] theorem or128_u8 (x : Int) : orI .u8 x 128 = x % 128 + 128 := by
  unfold orI
  rw [BitVec.toNat_or, BitVec.toNat_ofInt, BitVec.toNat_ofInt]
  simp only [IntKind.bits]
  have h1 := Int.emod_lt_of_pos x (b := ((2 ^ 8 : Nat) : Int)) (by decide)
  have h0 := Int.emod_nonneg x (b := ((2 ^ 8 : Nat) : Int)) (by decide)
  rw [show ((128 : Int) % ((2 ^ 8 : Nat) : Int)).toNat = 128 by decide, or128_nat _ (by omega), wrap_u8 (by omega) (by omega)]
  have : ((2 ^ 8 : Nat) : Int) = 256 := rfl
  omega
theorem w_and {t ty : TypeId} {x y : Operand} {k : IntKind} {X Y w : Int} (hx : Is (evE e x) (.raw (.int k X))) (hy : Is (evE e y) (.raw (.int k Y))) (hw : Is (andI k X Y) w) (hr : RunK P ops l (putE e dd (.raw (.int k w))) h K) : RunK P ops (⟨dd, .binOp .and t x y ty, ty', pos, af, none⟩ :: l) e h K :=
  w_bin hx hy (by rw [← hw]; simp [IsO, binV, andI]) hr
theorem w_shr {t ty : TypeId} {x y : Operand} {k k' : IntKind} {X Y w : Int} (hx : Is (evE e x) (.raw (.int k X))) (hy : Is (evE e y) (.raw (.int k' Y))) (h0 : 0 ≤ Y) (hw : Is (shrI k X Y) w) (hr : RunK P ops l (putE e dd (.raw (.int k w))) h K) : RunK P ops (⟨dd, .binOp .shr t x y ty, ty', pos, af, none⟩ :: l) e h K :=
  w_bin hx hy (by
    rw [← hw]
    show binV .shr (.int k X) (.int k' Y) = _
    simp only [binV]
    rw [if_neg (by omega)]
    unfold shrI
    rw [Int.fdiv_eq_ediv_of_nonneg _ (Int.le_of_lt (Int.pow_pos (by decide)))]) hr
end Go.Proofs.YtjbbnollidcagaaDoor.Asl

