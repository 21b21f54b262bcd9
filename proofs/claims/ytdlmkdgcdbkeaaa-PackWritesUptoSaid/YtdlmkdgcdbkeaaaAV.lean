/- What came in, with how much it is: for the statements that bound it. -/
import Derived.Test.YtdlmkdgcdbkeaaaAQ
import Derived.Test.YtdlmkdgcdbkeaaaRows
namespace Go.Proofs.Ytdlmkdgcdbkeaaa.Asl
open Go Go.RowKit
set_option linter.unusedVariables false
set_option linter.unusedSimpArgs false
def Rdu (P : Program) (t : TypeId) {α : Type} (g : α → AV) (ok : α → Prop) (blk : α → Nat) : Prop :=
  ∀ (H : Type) (enc : TypeId × Value → H) (W : World) (fuel : Nat) (cs : List Value) (D : DataW H) (p : List MemPlace),
    DataW.trod enc P W 0 (fun _ => true) true fuel t cs = some (D, p) → (∀ n ∈ D.weights P t, n ≤ reachBytes) → ∃ x, RC (inC W) (g x) cs ∧ ok x ∧ blk x ≤ Rows.uptoBulk D
theorem bulk_pos {H : Type} (d : DataW H) : 1 ≤ Rows.uptoBulk d := by
  cases d with
  | lit l => cases l <;> simp [Rows.uptoBulk]
  | nil => simp [Rows.uptoBulk]
  | ptr d => simp [Rows.uptoBulk]
  | slice elems spare => simp [Rows.uptoBulk]
  | agg parts => simp [Rows.uptoBulk]
  | iface t d => simp [Rows.uptoBulk]
  | map entries => simp [Rows.uptoBulk]
  | held h => simp [Rows.uptoBulk]
theorem rdu_flat {P : Program} {t : TypeId} {α : Type} {g : α → AV} {ok : α → Prop} (h : Rda P t g ok) : Rdu P t g ok (fun _ => 1) := by
  intro H enc W fuel cs D p h1 h2
  obtain ⟨x, hk, ho⟩ := h H enc W fuel cs D p h1 h2
  exact ⟨x, hk, ho, bulk_pos D⟩
theorem rdu_int {P : Program} {t : TypeId} {k : IntKind} (hu : P.underlying t = some (.int k)) : Rdu P t (fun x => .raw (.int k x)) (fun x => (Lit.int k x).wf = true) (fun _ => 1) := rdu_flat (rda_int hu)
theorem rdu_bool {P : Program} {t : TypeId} (hu : P.underlying t = some .bool) : Rdu P t (fun x => .raw (.bool x)) (fun _ => True) (fun _ => 1) := rdu_flat (rda_bool hu)
theorem rdu_string {P : Program} {t : TypeId} (hu : P.underlying t = some .string) : Rdu P t (fun s => .raw (.string s)) (fun s => s.size ≤ 140737488351232) (fun s => s.size + 1) := by
  intro H enc W fuel cs D p h hw
  obtain ⟨s, rfl, e, _⟩ := DataW.trod_string hu h
  have e1 : D = .lit (.string s.data.toList) := congrArg Prod.fst e
  subst e1
  refine ⟨s, .one (.raw _) rfl, ?_, ?_⟩
  · have := hw s.data.toList.length (by simp [DataW.weights])
    rw [Array.length_toList] at this
    exact this
  · simp only [Rows.uptoBulk, Array.length_toList]; exact Nat.le_refl _
theorem row_ofU {α : Type} {W : World} {a : Addr} {sz : Nat} {g : α → AV} {ok : Nat → α → Prop} : ∀ n, (∀ i, i < n → ∃ x, ok i x ∧ ∃ c : List Value, c.length = sz ∧ RC (inC W) (g x) c ∧ ∀ j u, c[j]? = some u → W.cell? (a.add (i * sz + j)) = some u) →
    ∃ (l : List α) (cs : List Value), l.length = n ∧ cs.length = n * sz ∧ RCs (inC W) (l.map g) cs ∧ (∀ j u, cs[j]? = some u → W.cell? (a.add j) = some u) ∧ ∀ (i : Nat) (x : α), l[i]? = some x → ok i x
  | 0, _ => ⟨[], [], rfl, by simp, .nil, fun j u h => by simp at h, by simp⟩
  | n + 1, h => by
    obtain ⟨l, cs, h1, h2, h3, h4, h5⟩ := row_ofU n (fun i hi => h i (by omega))
    obtain ⟨x, hok, c, k1, k2, k3⟩ := h n (by omega)
    refine ⟨l ++ [x], cs ++ c, by simp [h1], by simp [h2, k1, Nat.add_mul], ?_, fun j u hj => ?_, fun i y hy => ?_⟩
    · rw [List.map_append]
      refine h3.append ?_
      have := RCs.cons k2 RCs.nil
      rwa [List.append_nil] at this
    · rcases Nat.lt_or_ge j cs.length with hlt | hge
      · rw [List.getElem?_append_left hlt] at hj; exact h4 j u hj
      · rw [List.getElem?_append_right hge] at hj
        have := k3 _ _ hj
        rw [← h2, show cs.length + (j - cs.length) = j by omega] at this
        exact this
    · rcases Nat.lt_or_ge i l.length with hlt | hge
      · rw [List.getElem?_append_left hlt] at hy; exact h5 i y hy
      · rw [List.getElem?_append_right hge] at hy
        have hi : i - l.length = 0 := by
          have := (List.getElem?_eq_some_iff.1 hy).1
          simp at this; omega
        rw [hi] at hy
        simp at hy
        subst hy
        rw [show i = n by omega]
        exact hok
theorem bulk_sum {H : Type} {α : Type} {blk : α → Nat} : ∀ (l : List α) (ds : List (DataW H)), (∀ (i : Nat) (x : α), l[i]? = some x → ∃ d, ds[i]? = some d ∧ blk x ≤ Rows.uptoBulk d) → (l.map blk).sum ≤ Rows.uptoBulkAll ds
  | [], ds, _ => by simp
  | x :: l, [], h => by obtain ⟨d, hd, _⟩ := h 0 x rfl; simp at hd
  | x :: l, d :: ds, h => by
    obtain ⟨d', hd, hb⟩ := h 0 x rfl
    simp at hd
    subst hd
    have := bulk_sum l ds (fun i y hy => h (i + 1) y hy)
    simp only [List.map_cons, List.sum_cons, Rows.uptoBulkAll]
    omega
theorem rdu_slice {P : Program} {t e : TypeId} {α : Type} {g : α → AV} {ok : α → Prop} {blk : α → Nat} {b sz : Nat} (hu : P.underlying t = some (.slice e)) (hc : P.cellsOf e = sz) (hp : 0 < sz) (hb : P.bytesOf e = b) (hbp : 0 < b) (hd : Rdu P e g ok blk) (hs : ∀ x, (g x).size = sz) :
    Rdu P t (fun l : List α => AV.sl sz (l.map g)) (fun l => l.length * b ≤ 140737488351232 ∧ l.length ≤ 140737488351232 ∧ ∀ x ∈ l, ok x) (fun l => (l.map blk).sum + 1) := by
  intro H enc W fuel cs D p h hw
  rcases DataW.trod_slice hu h with ⟨rfl, e0⟩ | ⟨a, len, cap, elems, rest, n, _, rfl, e0, _, hl, hm, hlen, hel, _, _⟩
  · exact ⟨[], .one .sl0 rfl, by simp, by simp [bulk_pos]⟩
  · have e1 : D = .slice (elems.map (·.1)) (rest.map (·.1)) := congrArg Prod.fst e0
    subst e1
    have hw1 : ∀ n ∈ ((elems.map (·.1)).length + (rest.map (·.1)).length) * P.bytesOf e :: (DataW.weightsAll P e (elems.map (·.1)) ++ DataW.weightsAll P e (rest.map (·.1))), n ≤ reachBytes := by
      intro n hn
      refine hw n ?_
      simp only [DataW.weights, hu]
      exact hn
    have each : ∀ i, i < len → ∃ x, (ok x ∧ ∃ d, (elems.map (·.1))[i]? = some d ∧ blk x ≤ Rows.uptoBulk d) ∧ ∃ c : List Value, c.length = sz ∧ RC (inC W) (g x) c ∧ ∀ j u, c[j]? = some u → W.cell? (a.add (i * sz + j)) = some u := by
      intro i hi
      have h1 := hel i hi
      rw [List.getElem?_eq_getElem (by omega)] at h1
      obtain ⟨c, h2, h3⟩ := Option.bind_eq_some_iff.1 h1
      obtain ⟨x, hx, hok, hbk⟩ := hd H enc W n c (elems[i]'(by omega)).1 (elems[i]'(by omega)).2 (by rw [h3]) (fun m hm => hw1 m (List.mem_cons_of_mem _ (List.mem_append_left _ (weights_all' (List.mem_map.2 ⟨_, List.getElem_mem (by omega), rfl⟩) m hm))))
      obtain ⟨_, h4, h5⟩ := World.cells?_some h2
      refine ⟨x, ⟨hok, (elems[i]'(by omega)).1, by rw [List.getElem?_map, List.getElem?_eq_getElem (by omega)]; rfl, hbk⟩, c, by rw [h4, hc], hx, fun j u hj => ?_⟩
      have hj' := (List.getElem?_eq_some_iff.1 hj).1
      have := h5 j (by omega)
      rw [add_add', hc] at this
      rw [this, hj]
    obtain ⟨l, cells, hll, hcl, hrc, hrd, hok⟩ := row_ofU (ok := fun i x => ok x ∧ ∃ d, (elems.map (·.1))[i]? = some d ∧ blk x ≤ Rows.uptoBulk d) len each
    subst hll
    refine ⟨l, .one ?_ rfl, ⟨?_, ?_, fun x hx => ?_⟩, ?_⟩
    · rcases l with _ | ⟨x, l⟩
      · exact .sl0
      · have h0 : 0 < cells.length := by rw [hcl]; simp [Nat.add_mul]; omega
        have hz := hrd 0 _ (List.getElem?_eq_getElem h0)
        have hsp : a.spot = none ∧ a.block < W.heap.size := by
          simp only [Addr.add, if_true] at hz
          unfold World.cell? at hz
          split at hz
          · rename_i hb'
            split at hz
            · cases hz
            · rename_i hsp
              exact ⟨by simpa using hsp, (Array.getElem?_eq_some_iff.1 hb').1⟩
          · cases hz
        have ha : a = ⟨a.block, a.off, none⟩ := by cases a; simp at hsp; simp [hsp.1]
        rw [ha]
        have := RV.sl (C := inC W) (sz := sz) (l := (x :: l).map g) (b := a.block) (o := a.off) (c := cap) hrc (fun y hy => by
          obtain ⟨z, _, rfl⟩ := List.mem_map.1 hy
          exact hs z) hsp.2 (fun j u hj => by
          have := hrd j u hj
          rw [ha, add_at] at this
          exact this) (by rw [List.length_map]; exact hl)
        rw [List.length_map] at this
        exact this
    · have := hw1 _ (List.mem_cons_self)
      rw [List.length_map, hlen, hb] at this
      exact Nat.le_trans (Nat.mul_le_mul_right _ (Nat.le_add_right _ _)) this
    · have := hw1 _ (List.mem_cons_self)
      rw [List.length_map, hlen, hb] at this
      exact Nat.le_trans (Nat.le_trans (Nat.le_mul_of_pos_right _ hbp) (Nat.mul_le_mul_right _ (Nat.le_add_right _ _))) this
    · obtain ⟨i, hi, rfl⟩ := List.getElem_of_mem hx
      exact (hok i _ (List.getElem?_eq_getElem hi)).1
    · have := bulk_sum (blk := blk) l (elems.map (·.1)) (fun i x h => (hok i x h).2)
      simp only [Rows.uptoBulk]
      omega
def RdFu (P : Program) (l : List (TypeId × Nat)) (off : Nat) {α : Type} (g : α → List AV) (ok : α → Prop) (blk : α → Nat) : Prop :=
  ∀ (H : Type) (enc : TypeId × Value → H) (W : World) (fuel : Nat) (cs : List Value) (xs : List (DataW H × List MemPlace)),
    xs.length = l.length → (∀ (i : Nat) (f : TypeId × Nat), l[i]? = some f → DataW.trod enc P W 0 (fun _ => true) true fuel f.1 ((cs.drop f.2).take (P.cellsOf f.1)) = xs[i]?) →
    (∀ (i : Nat) (f : TypeId × Nat) (y : DataW H × List MemPlace), l[i]? = some f → xs[i]? = some y → ∀ n ∈ y.1.weights P f.1, n ≤ reachBytes) → cs.length = off + (l.map fun f => P.cellsOf f.1).sum → ∃ x, RCs (inC W) (g x) (cs.drop off) ∧ ok x ∧ blk x ≤ Rows.uptoBulkAll (xs.map (·.1))
theorem rdfu_one {P : Program} {t : TypeId} {off : Nat} {α : Type} {g : α → AV} {ok : α → Prop} {blk : α → Nat} (hd : Rdu P t g ok blk) : RdFu P [(t, off)] off (fun x => [g x]) ok blk := by
  intro H enc W fuel cs xs hx hf hw hl
  match xs, hx with
  | [y], _ =>
    obtain ⟨x, hk, ho, hbk⟩ := hd H enc W fuel _ y.1 y.2 (hf 0 _ rfl) (hw 0 _ y rfl rfl)
    refine ⟨x, ?_, ho, by simp only [List.map_cons, List.map_nil, Rows.uptoBulkAll]; omega⟩
    simp at hl
    rw [List.take_of_length_le (by rw [List.length_drop]; show cs.length - off ≤ P.cellsOf t; omega)] at hk
    have := RCs.cons hk RCs.nil
    rwa [List.append_nil] at this
theorem rdfu_cons {P : Program} {t : TypeId} {off sz : Nat} {l : List (TypeId × Nat)} {α β : Type} {ga : α → AV} {gb : β → List AV} {oka : α → Prop} {okb : β → Prop} {ba : α → Nat} {bb : β → Nat} (hc : P.cellsOf t = sz) (ha : Rdu P t ga oka ba) (hb : RdFu P l (off + sz) gb okb bb) :
    RdFu P ((t, off) :: l) off (fun x : α × β => ga x.1 :: gb x.2) (fun x => oka x.1 ∧ okb x.2) (fun x => ba x.1 + bb x.2) := by
  intro H enc W fuel cs xs hx hf hw hl
  match xs, hx with
  | y :: ys, hx =>
    simp [hc] at hl
    obtain ⟨x, hk, ho, hbk⟩ := ha H enc W fuel _ y.1 y.2 (hf 0 _ rfl) (hw 0 _ y rfl rfl)
    obtain ⟨z, hk2, ho2, hbk2⟩ := hb H enc W fuel cs ys (by simpa using hx) (fun i f h => hf (i + 1) f h) (fun i f y h h' => hw (i + 1) f y h h') (by omega)
    refine ⟨(x, z), ?_, ⟨ho, ho2⟩, by simp only [List.map_cons, Rows.uptoBulkAll]; omega⟩
    simp only [hc] at hk
    have := RCs.cons hk hk2
    rw [← List.drop_drop, List.take_append_drop] at this
    exact this
theorem rdu_struct {P : Program} {t : TypeId} {fs : Array Field} {l : List (TypeId × Nat)} {α β : Type} {g : α → List AV} {ok : α → Prop} {blk : α → Nat} {f : β → α} {m : α → β} (hu : P.underlying t = some (.struct fs)) (hl : fs.toList.map (fun f => (f.type, f.offset)) = l)
    (hc : P.cellsOf t = (l.map fun f => P.cellsOf f.1).sum) (hd : RdFu P l 0 g ok blk) (hg : ∀ x, f (m x) = x) : Rdu P t (fun x => .agg (g (f x))) (fun x => ok (f x)) (fun x => blk (f x) + 1) := by
  intro H enc W fuel cs D p h hw
  obtain ⟨xs, n, _, e0, hcs, hxl, hf⟩ := DataW.trod_struct hu h
  have e1 : D = .agg (xs.map (·.1)) := congrArg Prod.fst e0
  subst e1
  subst hl
  have hget : ∀ (i : Nat) (z : TypeId × Nat), (fs.toList.map (fun f => (f.type, f.offset)))[i]? = some z → ∃ fd : Field, fs[i]? = some fd ∧ z = (fd.type, fd.offset) := by
    intro i z hz
    rw [List.getElem?_map, Array.getElem?_toList] at hz
    obtain ⟨fd, h1, h2⟩ := Option.map_eq_some_iff.1 hz
    exact ⟨fd, h1, h2.symm⟩
  obtain ⟨x, hk, ho, hbk⟩ := hd H enc W n cs xs (by simp [hxl]) (fun i z hz => by
      obtain ⟨fd, h1, rfl⟩ := hget i z hz
      exact hf i fd h1) (fun i z y hz hy m hm => by
      obtain ⟨fd, h1, rfl⟩ := hget i z hz
      refine hw m ?_
      simp only [DataW.weights, hu]
      refine DataW.weights_mem_each (j := i) (t := fd.type) (d := y.1) ?_ ?_ m hm
      · rw [List.getElem?_map, Array.getElem?_toList, h1]; rfl
      · rw [List.getElem?_map, hy]; rfl) (by omega)
  refine ⟨m x, ?_, by show ok (f (m x)); rw [hg]; exact ho, ?_⟩
  · show RC _ (.agg (g (f (m x)))) cs
    rw [hg]
    exact .agg hk
  · show blk (f (m x)) + 1 ≤ _
    rw [hg]
    simp only [Rows.uptoBulk]
    omega
/-- An argument: as it comes. -/
theorem rdu_arg {P : Program} {ts : List TypeId} {H : Type} {ds : List (DataW H)} {t : TypeId} {α : Type} {g : α → AV} {ok : α → Prop} {blk : α → Nat} (hd : Rdu P t g ok blk) (hs : (DataW.weightsEach P ts ds).all (· ≤ reachBytes) = true)
    {enc : TypeId × Value → H} {W : World} {v : Value} {D : DataW H} {p : List MemPlace} (h : DataW.Trod enc P W 0 (fun _ => true) true t v D p) {j : Nat} (ht : ts[j]? = some t) (hj : ds[j]? = some D) : ∃ x, RC (inC W) (g x) v.cells.toList ∧ ok x ∧ blk x ≤ Rows.uptoBulk D := by
  obtain ⟨fuel, hf⟩ := h
  refine hd H enc W fuel _ D p hf fun n hn => ?_
  have := List.all_eq_true.1 hs n (DataW.weights_mem_each ht hj n hn)
  simpa using this
end Go.Proofs.Ytdlmkdgcdbkeaaa.Asl
