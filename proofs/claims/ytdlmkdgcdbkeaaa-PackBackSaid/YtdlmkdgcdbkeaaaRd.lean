/- What came in, read as Lean data: whatever the form's reading takes is, cell by cell, a value of a kind ('Kd') of the print's words, and in its bounds. -/
import Derived.Test.YtdlmkdgcdbkeaaaWWords
import Derived.ChangeArms
import Derived.ChangeSlices
import Derived.SizedLaws
import Derived.WideShapes
namespace Go.Proofs.Ytdlmkdgcdbkeaaa.Rd
open Go.RowKit Go.Proofs.YtdlmkdgcdbkeaaaW.PrintWords
set_option linter.unusedVariables false

def Rdg (P : Program) (t : TypeId) {α : Type} (d : Kd α) (ok : α → Prop) : Prop :=
  ∀ (H : Type) (enc : TypeId × Value → H) (W : World) (fuel : Nat) (cs : List Value) (D : DataW H) (p : List MemPlace),
    DataW.trod enc P W 0 (fun _ => true) true fuel t cs = some (D, p) → (∀ n ∈ D.weights P t, n ≤ reachBytes) → ∃ x, d.K W x cs ∧ ok x

theorem rdg_int {P : Program} {t : TypeId} {k : IntKind} (hu : P.underlying t = some (.int k)) : Rdg P t (Kd.int k) (fun x => (Lit.int k x).wf = true) := by
  intro H enc W fuel cs D p h hw
  obtain ⟨n, rfl, _, hn⟩ := DataW.trod_int hu h
  exact ⟨n, rfl, hn⟩

theorem rdg_bool {P : Program} {t : TypeId} (hu : P.underlying t = some .bool) : Rdg P t Kd.bool (fun _ => True) := by
  intro H enc W fuel cs D p h hw
  obtain ⟨n, rfl, _⟩ := DataW.trod_bool hu h
  exact ⟨n, rfl, trivial⟩

theorem rdg_string {P : Program} {t : TypeId} (hu : P.underlying t = some .string) : Rdg P t Kd.string (fun s => s.size ≤ 140737488351232) := by
  intro H enc W fuel cs D p h hw
  obtain ⟨s, rfl, e, _⟩ := DataW.trod_string hu h
  have e1 : D = .lit (.string s.data.toList) := congrArg Prod.fst e
  subst e1
  refine ⟨s, rfl, ?_⟩
  have := hw s.data.toList.length (by simp [DataW.weights])
  rw [Array.length_toList] at this
  exact this

theorem list_of {α : Type} (Q : Nat → α → Prop) : ∀ n, (∀ i, i < n → ∃ x, Q i x) → ∃ l : List α, l.length = n ∧ ∀ i x, l[i]? = some x → Q i x
  | 0, _ => ⟨[], rfl, fun i x h => by simp at h⟩
  | n + 1, h => by
    obtain ⟨l, hl, hq⟩ := list_of Q n (fun i hi => h i (by omega))
    obtain ⟨x, hx⟩ := h n (by omega)
    refine ⟨l ++ [x], by simp [hl], fun i y hy => ?_⟩
    rcases Nat.lt_or_ge i l.length with hi | hi
    · rw [List.getElem?_append_left hi] at hy
      exact hq i y hy
    · have hi2 := (List.getElem?_eq_some_iff.1 hy).1
      rw [List.length_append, List.length_singleton] at hi2
      obtain rfl : i = n := by omega
      rw [List.getElem?_append_right hi, hl, Nat.sub_self] at hy
      have : x = y := by simpa using hy
      exact this ▸ hx

theorem add_add (a : Addr) (i j : Nat) : (a.add i).add j = a.add (i + j) := by
  unfold Addr.add
  by_cases h : i = 0 <;> by_cases h' : j = 0 <;> simp_all [Nat.add_assoc]

theorem weights_all {H : Type} {P : Program} {e : TypeId} : ∀ {l : List (DataW H)} {d : DataW H}, d ∈ l → ∀ n ∈ d.weights P e, n ∈ DataW.weightsAll P e l
  | [], d, h, _, _ => by simp at h
  | x :: r, d, h, n, hn => by
    simp only [DataW.weightsAll, List.mem_append]
    rcases List.mem_cons.1 h with rfl | h
    · exact .inl hn
    · exact .inr (weights_all h n hn)

theorem rdg_slice {P : Program} {t e : TypeId} {α : Type} {d : Kd α} {ok : α → Prop} {b : Nat} (hu : P.underlying t = some (.slice e)) (hc : P.cellsOf e = d.sz) (hb : P.bytesOf e = b) (hd : Rdg P e d ok) :
    Rdg P t (Kd.slice e d) (fun l => l.length * b ≤ 140737488351232 ∧ l.length ≤ maxLen ∧ ∀ x ∈ l, ok x) := by
  intro H enc W fuel cs D p h hw
  rcases DataW.trod_slice hu h with ⟨rfl, e0⟩ | ⟨a, len, cap, elems, rest, n, _, rfl, e0, _, hl, hm, hlen, hel, _, _⟩
  · exact ⟨[], ⟨none, 0, rfl, Nat.le_refl _, rfl, Nat.zero_le _, fun h => absurd h (by simp)⟩, by simp, by simp, by simp⟩
  · have e1 : D = .slice (elems.map (·.1)) (rest.map (·.1)) := congrArg Prod.fst e0
    subst e1
    have hw1 : ∀ n ∈ ((elems.map (·.1)).length + (rest.map (·.1)).length) * P.bytesOf e :: (DataW.weightsAll P e (elems.map (·.1)) ++ DataW.weightsAll P e (rest.map (·.1))), n ≤ reachBytes := by
      intro n hn
      refine hw n ?_
      simp only [DataW.weights, hu]
      exact hn
    have each : ∀ i, i < len → ∃ x, ok x ∧ ∃ c, c.length = d.sz ∧ d.K W x c ∧ ∀ j u, c[j]? = some u → W.cell? (a.add (i * d.sz + j)) = some u := by
      intro i hi
      have h1 := hel i hi
      rw [List.getElem?_eq_getElem (by omega)] at h1
      obtain ⟨c, h2, h3⟩ := Option.bind_eq_some_iff.1 h1
      obtain ⟨x, hx, hok⟩ := hd H enc W n c (elems[i]'(by omega)).1 (elems[i]'(by omega)).2 (by rw [h3]) (fun m hm => hw1 m (List.mem_cons_of_mem _ (List.mem_append_left _ (weights_all (List.mem_map.2 ⟨_, List.getElem_mem (by omega), rfl⟩) m hm))))
      obtain ⟨_, h4, h5⟩ := World.cells?_some h2
      refine ⟨x, hok, c, by rw [h4, hc], hx, fun j u hj => ?_⟩
      have hj' := (List.getElem?_eq_some_iff.1 hj).1
      have := h5 j (by omega)
      rw [add_add, hc] at this
      rw [this, hj]
    obtain ⟨l, hll, hlq⟩ := list_of _ len each
    subst hll
    refine ⟨l, ⟨some a, cap, rfl, hl, rfl, ?_, fun _ => ⟨a, rfl, fun j p hj => (hlq j p hj).2⟩⟩, ?_, Nat.le_trans hl hm, ?_⟩
    · unfold maxLen at hm; omega
    · have := hw1 _ (List.mem_cons_self)
      rw [List.length_map, hlen, hb] at this
      exact Nat.le_trans (Nat.mul_le_mul_right _ (Nat.le_add_right _ _)) this
    · intro x hx
      obtain ⟨i, hi⟩ := List.getElem?_of_mem hx
      exact (hlq i x hi).1

/-- Fields in line, from cell 'off' on. -/
def RdF (P : Program) (l : List (TypeId × Nat)) (off : Nat) {α : Type} (d : Kd α) (ok : α → Prop) : Prop :=
  ∀ (H : Type) (enc : TypeId × Value → H) (W : World) (fuel : Nat) (cs : List Value) (xs : List (DataW H × List MemPlace)),
    xs.length = l.length → (∀ (i : Nat) (f : TypeId × Nat), l[i]? = some f → DataW.trod enc P W 0 (fun _ => true) true fuel f.1 ((cs.drop f.2).take (P.cellsOf f.1)) = xs[i]?) →
    (∀ (i : Nat) (f : TypeId × Nat) (y : DataW H × List MemPlace), l[i]? = some f → xs[i]? = some y → ∀ n ∈ y.1.weights P f.1, n ≤ reachBytes) → cs.length = off + d.sz → ∃ x, d.K W x (cs.drop off) ∧ ok x

theorem rdf_one {P : Program} {t : TypeId} {off : Nat} {α : Type} {d : Kd α} {ok : α → Prop} (hc : P.cellsOf t = d.sz) (hd : Rdg P t d ok) : RdF P [(t, off)] off d ok := by
  intro H enc W fuel cs xs hx hf hw hl
  match xs, hx with
  | [y], _ =>
    obtain ⟨x, hk, ho⟩ := hd H enc W fuel _ y.1 y.2 (hf 0 _ rfl) (hw 0 _ y rfl rfl)
    refine ⟨x, ?_, ho⟩
    simp only [hc] at hk
    rw [List.take_of_length_le (by rw [List.length_drop]; omega)] at hk
    exact hk

theorem rdf_cons {P : Program} {t : TypeId} {off : Nat} {l : List (TypeId × Nat)} {α β : Type} {a : Kd α} {b : Kd β} {oka : α → Prop} {okb : β → Prop} (hc : P.cellsOf t = a.sz) (ha : Rdg P t a oka) (hb : RdF P l (off + a.sz) b okb) :
    RdF P ((t, off) :: l) off (Kd.pair a b) (fun x => oka x.1 ∧ okb x.2) := by
  intro H enc W fuel cs xs hx hf hw hl
  match xs, hx with
  | y :: ys, hx =>
    have hl' : cs.length = off + (a.sz + b.sz) := hl
    obtain ⟨x, hk, ho⟩ := ha H enc W fuel _ y.1 y.2 (hf 0 _ rfl) (hw 0 _ y rfl rfl)
    obtain ⟨z, hk2, ho2⟩ := hb H enc W fuel cs ys (by simpa using hx) (fun i f h => hf (i + 1) f h) (fun i f y h h' => hw (i + 1) f y h h') (by omega)
    refine ⟨(x, z), ⟨(cs.drop off).take a.sz, cs.drop (off + a.sz), ?_, ?_, hk2⟩, ho, ho2⟩
    · rw [← List.drop_drop]
      exact (List.take_append_drop _ _).symm
    · simp only [hc] at hk
      exact hk

theorem rdg_struct {P : Program} {t : TypeId} {fs : Array Field} {l : List (TypeId × Nat)} {α β : Type} {d : Kd α} {ok : α → Prop} {f : β → α} {g : α → β} (hu : P.underlying t = some (.struct fs)) (hl : fs.toList.map (fun f => (f.type, f.offset)) = l)
    (hc : P.cellsOf t = d.sz) (hd : RdF P l 0 d ok) (hg : ∀ x, f (g x) = x) : Rdg P t (Kd.iso d f) (fun x => ok (f x)) := by
  intro H enc W fuel cs D p h hw
  obtain ⟨xs, n, _, e0, hcs, hxl, hf⟩ := DataW.trod_struct hu h
  have e1 : D = .agg (xs.map (·.1)) := congrArg Prod.fst e0
  subst e1
  subst hl
  have hget : ∀ (i : Nat) (z : TypeId × Nat), (fs.toList.map (fun f => (f.type, f.offset)))[i]? = some z → ∃ fd : Field, fs[i]? = some fd ∧ z = (fd.type, fd.offset) := by
    intro i z hz
    rw [List.getElem?_map, Array.getElem?_toList] at hz
    obtain ⟨fd, h1, h2⟩ := Option.map_eq_some_iff.1 hz
    exact ⟨fd, h1, h2.symm⟩
  obtain ⟨x, hk, ho⟩ := hd H enc W n cs xs (by simp [hxl]) (fun i z hz => by
      obtain ⟨fd, h1, rfl⟩ := hget i z hz
      exact hf i fd h1) (fun i z y hz hy m hm => by
      obtain ⟨fd, h1, rfl⟩ := hget i z hz
      refine hw m ?_
      simp only [DataW.weights, hu]
      refine DataW.weights_mem_each (j := i) (t := fd.type) (d := y.1) ?_ ?_ m hm
      · rw [List.getElem?_map, Array.getElem?_toList, h1]; rfl
      · rw [List.getElem?_map, hy]; rfl) (by omega)
  refine ⟨g x, ?_, by show ok (f (g x)); rw [hg]; exact ho⟩
  show d.K W (f (g x)) cs
  rw [hg]
  exact hk

theorem rdg_imp {P : Program} {t : TypeId} {α : Type} {d : Kd α} {ok ok' : α → Prop} (h : Rdg P t d ok) (hi : ∀ x, ok x → ok' x) : Rdg P t d ok' := by
  intro H enc W fuel cs D p h1 h2
  obtain ⟨x, hk, ho⟩ := h H enc W fuel cs D p h1 h2
  exact ⟨x, hk, hi x ho⟩

/-- An argument: as it comes. -/
theorem rdg_arg {P : Program} {ts : List TypeId} {H : Type} {ds : List (DataW H)} {t : TypeId} {α : Type} {d : Kd α} {ok : α → Prop} (hd : Rdg P t d ok) (hs : (DataW.weightsEach P ts ds).all (· ≤ reachBytes) = true)
    {enc : TypeId × Value → H} {W : World} {v : Value} {D : DataW H} {p : List MemPlace} (h : DataW.Trod enc P W 0 (fun _ => true) true t v D p) {j : Nat} (ht : ts[j]? = some t) (hj : ds[j]? = some D) : ∃ x, d.K W x v.cells.toList ∧ ok x := by
  obtain ⟨fuel, hf⟩ := h
  refine hd H enc W fuel _ D p hf fun n hn => ?_
  have := List.all_eq_true.1 hs n (DataW.weights_mem_each ht hj n hn)
  simpa using this
end Go.Proofs.Ytdlmkdgcdbkeaaa.Rd
