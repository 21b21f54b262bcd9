/- What came in, as abstract values; and a law's row out of the contract of its function. -/
import Derived.Test.YtngeckkebejhiaaDoorAO
import Derived.ChangeArms
import Derived.ChangeSlices
import Derived.SizedLaws
import Derived.WideShapes
namespace Go.Proofs.YtngeckkebejhiaaDoor.Asl
open Go Go.RowKit
set_option linter.unusedVariables false
set_option linter.unusedSimpArgs false

/-- The world as a call finds it: all that stands is only read. -/
def inC (W : World) : Cx := { W := W, F := fun b => b < W.heap.size, O := fun _ => False, ι := fun _ => none }
theorem gl_none (h : globs = []) (C : Cx) : Gl C := fun p hp => by rw [h] at hp; cases hp
theorem inC_ok (W : World) (hg : Gl (inC W)) : HOk (inC W) noHeap := by
  refine ⟨fun _ _ h => ?_, fun _ _ => rfl, fun _ _ _ _ _ _ _ h => ?_, fun _ h => h.elim, fun _ h => h, fun _ h => h.elim, hg⟩ <;> cases h
theorem gl_in {W : World} (h : ∀ p ∈ globs, W.cell? ⟨p.1, 0, none⟩ = some p.2) : Gl (inC W) := fun p hp => by
  have h1 := h p hp
  refine ⟨?_, h1⟩
  unfold World.cell? at h1
  split at h1
  · rename_i hb
    exact (Array.getElem?_eq_some_iff.1 hb).1
  · cases h1

def Rda (P : Program) (t : TypeId) {α : Type} (g : α → AV) (ok : α → Prop) : Prop :=
  ∀ (H : Type) (enc : TypeId × Value → H) (W : World) (fuel : Nat) (cs : List Value) (D : DataW H) (p : List MemPlace),
    DataW.trod enc P W 0 (fun _ => true) true fuel t cs = some (D, p) → (∀ n ∈ D.weights P t, n ≤ reachBytes) → ∃ x, RC (inC W) (g x) cs ∧ ok x

theorem rda_int {P : Program} {t : TypeId} {k : IntKind} (hu : P.underlying t = some (.int k)) : Rda P t (fun x => .raw (.int k x)) (fun x => (Lit.int k x).wf = true) := by
  intro H enc W fuel cs D p h hw
  obtain ⟨n, rfl, _, hn⟩ := DataW.trod_int hu h
  exact ⟨n, .one (.raw _) rfl, hn⟩
theorem rda_bool {P : Program} {t : TypeId} (hu : P.underlying t = some .bool) : Rda P t (fun x => .raw (.bool x)) (fun _ => True) := by
  intro H enc W fuel cs D p h hw
  obtain ⟨n, rfl, _⟩ := DataW.trod_bool hu h
  exact ⟨n, .one (.raw _) rfl, trivial⟩
theorem rda_string {P : Program} {t : TypeId} (hu : P.underlying t = some .string) : Rda P t (fun s => .raw (.string s)) (fun s => s.size ≤ 140737488351232) := by
  intro H enc W fuel cs D p h hw
  obtain ⟨s, rfl, e, _⟩ := DataW.trod_string hu h
  have e1 : D = .lit (.string s.data.toList) := congrArg Prod.fst e
  subst e1
  refine ⟨s, .one (.raw _) rfl, ?_⟩
  have := hw s.data.toList.length (by simp [DataW.weights])
  rw [Array.length_toList] at this
  exact this
theorem add_add' (a : Addr) (i j : Nat) : (a.add i).add j = a.add (i + j) := by
  unfold Addr.add
  by_cases h : i = 0 <;> by_cases h' : j = 0 <;> simp_all [Nat.add_assoc]
theorem weights_all' {H : Type} {P : Program} {e : TypeId} : ∀ {l : List (DataW H)} {d : DataW H}, d ∈ l → ∀ n ∈ d.weights P e, n ∈ DataW.weightsAll P e l
  | [], d, h, _, _ => by simp at h
  | x :: r, d, h, n, hn => by
    simp only [DataW.weightsAll, List.mem_append]
    rcases List.mem_cons.1 h with rfl | h
    · exact .inl hn
    · exact .inr (weights_all' h n hn)
theorem row_of {α : Type} {W : World} {a : Addr} {sz : Nat} {g : α → AV} {ok : α → Prop} : ∀ n, (∀ i, i < n → ∃ x, ok x ∧ ∃ c : List Value, c.length = sz ∧ RC (inC W) (g x) c ∧ ∀ j u, c[j]? = some u → W.cell? (a.add (i * sz + j)) = some u) →
    ∃ (l : List α) (cs : List Value), l.length = n ∧ cs.length = n * sz ∧ RCs (inC W) (l.map g) cs ∧ (∀ j u, cs[j]? = some u → W.cell? (a.add j) = some u) ∧ ∀ x ∈ l, ok x
  | 0, _ => ⟨[], [], rfl, by simp, .nil, fun j u h => by simp at h, by simp⟩
  | n + 1, h => by
    obtain ⟨l, cs, h1, h2, h3, h4, h5⟩ := row_of n (fun i hi => h i (by omega))
    obtain ⟨x, hok, c, k1, k2, k3⟩ := h n (by omega)
    refine ⟨l ++ [x], cs ++ c, by simp [h1], by simp [h2, k1, Nat.add_mul], ?_, fun j u hj => ?_, fun y hy => ?_⟩
    · rw [List.map_append]
      refine h3.append ?_
      have := RCs.cons k2 RCs.nil
      rwa [List.append_nil] at this
    · rcases Nat.lt_or_ge j cs.length with hlt | hge
      · rw [List.getElem?_append_left hlt] at hj; exact h4 j u hj
      · rw [List.getElem?_append_right hge] at hj
        have := k3 _ _ hj
        rw [← h2, show cs.length + (j - cs.length) = j by omega] at this
        exact this
    · rcases List.mem_append.1 hy with hy | hy
      · exact h5 y hy
      · rw [List.mem_singleton.1 hy]; exact hok
theorem rda_slice {P : Program} {t e : TypeId} {α : Type} {g : α → AV} {ok : α → Prop} {b sz : Nat} (hu : P.underlying t = some (.slice e)) (hc : P.cellsOf e = sz) (hp : 0 < sz) (hb : P.bytesOf e = b) (hbp : 0 < b) (hd : Rda P e g ok) (hs : ∀ x, (g x).size = sz) :
    Rda P t (fun l : List α => AV.sl sz (l.map g)) (fun l => l.length * b ≤ 140737488351232 ∧ l.length ≤ 140737488351232 ∧ ∀ x ∈ l, ok x) := by
  intro H enc W fuel cs D p h hw
  rcases DataW.trod_slice hu h with ⟨rfl, e0⟩ | ⟨a, len, cap, elems, rest, n, _, rfl, e0, _, hl, hm, hlen, hel, _, _⟩
  · exact ⟨[], .one .sl0 rfl, by simp, by simp, by simp⟩
  · have e1 : D = .slice (elems.map (·.1)) (rest.map (·.1)) := congrArg Prod.fst e0
    subst e1
    have hw1 : ∀ n ∈ ((elems.map (·.1)).length + (rest.map (·.1)).length) * P.bytesOf e :: (DataW.weightsAll P e (elems.map (·.1)) ++ DataW.weightsAll P e (rest.map (·.1))), n ≤ reachBytes := by
      intro n hn
      refine hw n ?_
      simp only [DataW.weights, hu]
      exact hn
    have each : ∀ i, i < len → ∃ x, ok x ∧ ∃ c : List Value, c.length = sz ∧ RC (inC W) (g x) c ∧ ∀ j u, c[j]? = some u → W.cell? (a.add (i * sz + j)) = some u := by
      intro i hi
      have h1 := hel i hi
      rw [List.getElem?_eq_getElem (by omega)] at h1
      obtain ⟨c, h2, h3⟩ := Option.bind_eq_some_iff.1 h1
      obtain ⟨x, hx, hok⟩ := hd H enc W n c (elems[i]'(by omega)).1 (elems[i]'(by omega)).2 (by rw [h3]) (fun m hm => hw1 m (List.mem_cons_of_mem _ (List.mem_append_left _ (weights_all' (List.mem_map.2 ⟨_, List.getElem_mem (by omega), rfl⟩) m hm))))
      obtain ⟨_, h4, h5⟩ := World.cells?_some h2
      refine ⟨x, hok, c, by rw [h4, hc], hx, fun j u hj => ?_⟩
      have hj' := (List.getElem?_eq_some_iff.1 hj).1
      have := h5 j (by omega)
      rw [add_add', hc] at this
      rw [this, hj]
    obtain ⟨l, cells, hll, hcl, hrc, hrd, hok⟩ := row_of len each
    subst hll
    refine ⟨l, .one ?_ rfl, ?_, ?_, hok⟩
    · rcases l with _ | ⟨x, l⟩
      · exact .sl0
      · have h0 : 0 < cells.length := by rw [hcl]; simp [Nat.add_mul]; omega
        have hz := hrd 0 _ (List.getElem?_eq_getElem h0)
        have hsp : a.spot = none ∧ a.block < W.heap.size := by
          simp only [Addr.add, if_true] at hz
          unfold World.cell? at hz
          split at hz
          · rename_i hb'
            split at hz
            · cases hz
            · rename_i hsp
              exact ⟨by simpa using hsp, (Array.getElem?_eq_some_iff.1 hb').1⟩
          · cases hz
        have ha : a = ⟨a.block, a.off, none⟩ := by cases a; simp at hsp; simp [hsp.1]
        rw [ha]
        have := RV.sl (C := inC W) (sz := sz) (l := (x :: l).map g) (b := a.block) (o := a.off) (c := cap) hrc (fun y hy => by
          obtain ⟨z, _, rfl⟩ := List.mem_map.1 hy
          exact hs z) hsp.2 (fun j u hj => by
          have := hrd j u hj
          rw [ha, add_at] at this
          exact this) (by rw [List.length_map]; exact hl)
        rw [List.length_map] at this
        exact this
    · have := hw1 _ (List.mem_cons_self)
      rw [List.length_map, hlen, hb] at this
      exact Nat.le_trans (Nat.mul_le_mul_right _ (Nat.le_add_right _ _)) this
    · have := hw1 _ (List.mem_cons_self)
      rw [List.length_map, hlen, hb] at this
      exact Nat.le_trans (Nat.le_trans (Nat.le_mul_of_pos_right _ hbp) (Nat.mul_le_mul_right _ (Nat.le_add_right _ _))) this
def RdFa (P : Program) (l : List (TypeId × Nat)) (off : Nat) {α : Type} (g : α → List AV) (ok : α → Prop) : Prop :=
  ∀ (H : Type) (enc : TypeId × Value → H) (W : World) (fuel : Nat) (cs : List Value) (xs : List (DataW H × List MemPlace)),
    xs.length = l.length → (∀ (i : Nat) (f : TypeId × Nat), l[i]? = some f → DataW.trod enc P W 0 (fun _ => true) true fuel f.1 ((cs.drop f.2).take (P.cellsOf f.1)) = xs[i]?) →
    (∀ (i : Nat) (f : TypeId × Nat) (y : DataW H × List MemPlace), l[i]? = some f → xs[i]? = some y → ∀ n ∈ y.1.weights P f.1, n ≤ reachBytes) → cs.length = off + (l.map fun f => P.cellsOf f.1).sum → ∃ x, RCs (inC W) (g x) (cs.drop off) ∧ ok x
theorem rdfa_one {P : Program} {t : TypeId} {off : Nat} {α : Type} {g : α → AV} {ok : α → Prop} (hd : Rda P t g ok) : RdFa P [(t, off)] off (fun x => [g x]) ok := by
  intro H enc W fuel cs xs hx hf hw hl
  match xs, hx with
  | [y], _ =>
    obtain ⟨x, hk, ho⟩ := hd H enc W fuel _ y.1 y.2 (hf 0 _ rfl) (hw 0 _ y rfl rfl)
    refine ⟨x, ?_, ho⟩
    simp at hl
    rw [List.take_of_length_le (by rw [List.length_drop]; show cs.length - off ≤ P.cellsOf t; omega)] at hk
    have := RCs.cons hk RCs.nil
    rwa [List.append_nil] at this
theorem rdfa_cons {P : Program} {t : TypeId} {off sz : Nat} {l : List (TypeId × Nat)} {α β : Type} {ga : α → AV} {gb : β → List AV} {oka : α → Prop} {okb : β → Prop} (hc : P.cellsOf t = sz) (ha : Rda P t ga oka) (hb : RdFa P l (off + sz) gb okb) :
    RdFa P ((t, off) :: l) off (fun x : α × β => ga x.1 :: gb x.2) (fun x => oka x.1 ∧ okb x.2) := by
  intro H enc W fuel cs xs hx hf hw hl
  match xs, hx with
  | y :: ys, hx =>
    simp [hc] at hl
    obtain ⟨x, hk, ho⟩ := ha H enc W fuel _ y.1 y.2 (hf 0 _ rfl) (hw 0 _ y rfl rfl)
    obtain ⟨z, hk2, ho2⟩ := hb H enc W fuel cs ys (by simpa using hx) (fun i f h => hf (i + 1) f h) (fun i f y h h' => hw (i + 1) f y h h') (by omega)
    refine ⟨(x, z), ?_, ho, ho2⟩
    simp only [hc] at hk
    have := RCs.cons hk hk2
    rw [← List.drop_drop, List.take_append_drop] at this
    exact this
theorem rda_struct {P : Program} {t : TypeId} {fs : Array Field} {l : List (TypeId × Nat)} {α β : Type} {g : α → List AV} {ok : α → Prop} {f : β → α} {m : α → β} (hu : P.underlying t = some (.struct fs)) (hl : fs.toList.map (fun f => (f.type, f.offset)) = l)
    (hc : P.cellsOf t = (l.map fun f => P.cellsOf f.1).sum) (hd : RdFa P l 0 g ok) (hg : ∀ x, f (m x) = x) : Rda P t (fun x => .agg (g (f x))) (fun x => ok (f x)) := by
  intro H enc W fuel cs D p h hw
  obtain ⟨xs, n, _, e0, hcs, hxl, hf⟩ := DataW.trod_struct hu h
  have e1 : D = .agg (xs.map (·.1)) := congrArg Prod.fst e0
  subst e1
  subst hl
  have hget : ∀ (i : Nat) (z : TypeId × Nat), (fs.toList.map (fun f => (f.type, f.offset)))[i]? = some z → ∃ fd : Field, fs[i]? = some fd ∧ z = (fd.type, fd.offset) := by
    intro i z hz
    rw [List.getElem?_map, Array.getElem?_toList] at hz
    obtain ⟨fd, h1, h2⟩ := Option.map_eq_some_iff.1 hz
    exact ⟨fd, h1, h2.symm⟩
  obtain ⟨x, hk, ho⟩ := hd H enc W n cs xs (by simp [hxl]) (fun i z hz => by
      obtain ⟨fd, h1, rfl⟩ := hget i z hz
      exact hf i fd h1) (fun i z y hz hy m hm => by
      obtain ⟨fd, h1, rfl⟩ := hget i z hz
      refine hw m ?_
      simp only [DataW.weights, hu]
      refine DataW.weights_mem_each (j := i) (t := fd.type) (d := y.1) ?_ ?_ m hm
      · rw [List.getElem?_map, Array.getElem?_toList, h1]; rfl
      · rw [List.getElem?_map, hy]; rfl) (by omega)
  refine ⟨m x, ?_, by show ok (f (m x)); rw [hg]; exact ho⟩
  show RC _ (.agg (g (f (m x)))) cs
  rw [hg]
  exact .agg hk
theorem rda_imp {P : Program} {t : TypeId} {α : Type} {g g' : α → AV} {ok ok' : α → Prop} (h : Rda P t g ok) (hg : ∀ x, g' x = g x) (hi : ∀ x, ok x → ok' x) : Rda P t g' ok' := by
  intro H enc W fuel cs D p h1 h2
  obtain ⟨x, hk, ho⟩ := h H enc W fuel cs D p h1 h2
  exact ⟨x, by rw [hg]; exact hk, hi x ho⟩
/-- An argument: as it comes. -/
theorem rda_arg {P : Program} {ts : List TypeId} {H : Type} {ds : List (DataW H)} {t : TypeId} {α : Type} {g : α → AV} {ok : α → Prop} (hd : Rda P t g ok) (hs : (DataW.weightsEach P ts ds).all (· ≤ reachBytes) = true)
    {enc : TypeId × Value → H} {W : World} {v : Value} {D : DataW H} {p : List MemPlace} (h : DataW.Trod enc P W 0 (fun _ => true) true t v D p) {j : Nat} (ht : ts[j]? = some t) (hj : ds[j]? = some D) : ∃ x, RC (inC W) (g x) v.cells.toList ∧ ok x := by
  obtain ⟨fuel, hf⟩ := h
  refine hd H enc W fuel _ D p hf fun n hn => ?_
  have := List.all_eq_true.1 hs n (DataW.weights_mem_each ht hj n hn)
  simpa using this
theorem rv_slice {C : Cx} {sz : Nat} {l : List AV} {a : Option Addr} {len cap : Nat} (h : RC C (.sl sz l) (Value.slice a len cap).cells.toList) : RV C (.sl sz l) (.slice a len cap) := by
  obtain ⟨v, h1, h2, _⟩ := h.nag rfl
  have : (Value.slice a len cap).cells.toList = [.slice a len cap] := rfl
  rw [this] at h1
  cases h1
  exact h2
theorem rv_struct {C : Cx} {l : List AV} {cs : Array Value} (h : RC C (.agg l) (Value.agg cs).cells.toList) : RV C (.agg l) (.agg cs) := by
  have := RV.agg h.ag
  simpa [Value.cells] using this
/-- What a law's call comes to. -/
theorem law_calls {P : Program} {f : FuncId} {args : List AV} {W : World} {vs : List Value} (hg : Gl (inC W)) (h : CallD P f args noHeap (.raw (.bool true)) noHeap) (hv : RVs (inC W) args vs) : Calls P f vs.toArray W fun e W' => e = .returned (.bool true) ∧ Below W.heap.size W W' := by
  refine Calls.mono (h (inC W) vs (inC_ok W hg) hv) ?_
  rintro e W' ⟨v, C', rfl, rfl, ex, _, hr, _⟩
  cases hr
  exact ⟨rfl, ⟨ex.os, ex.tape, ex.output, ex.size, fun k hk => ex.heap k hk (fun ho => ho.elim)⟩⟩
end Go.Proofs.YtngeckkebejhiaaDoor.Asl
