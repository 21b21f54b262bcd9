/- Calls that are given rows of the caller's own: the rows are only read from then on. -/
import Derived.Test.YtngeckkebejhiaaDoorAJ
namespace Go.Proofs.YtngeckkebejhiaaDoor.Asl
open Go Go.RowKit
set_option linter.unusedVariables false
set_option linter.unusedSimpArgs false
variable {P : Program} {nt : Nat} {C : Cx} {σ : St} {a : Act} {o : Oper}

def frz1 (h : Hp) : AV → Hp
  | .ow id _ _ _ => match h id with
    | some (.arr s l) => if AV.noids l = true then setH h id (.fz s l) else h
    | _ => h
  | _ => h
def frzL (h : Hp) : List AV → Hp
  | [] => h
  | x :: l => frzL (frz1 h x) l
def seeF (h : Hp) : AV → AV
  | .ow id s off len => match h id with
    | some (.fz q l) => if q = s ∧ off + len ≤ l.length then .sl s ((l.drop off).take len) else .ow id s off len
    | _ => .ow id s off len
  | x => x

/-- A row of the call's own is only read from now on. -/
theorem freeze_sat (s : Sat nt C σ a) {id sz : Nat} {l : List AV} (hob : σ.heap id = some (.arr sz l)) (hn : AV.noids l = true) :
    ∃ C', C'.W = C.W ∧ C'.ι = C.ι ∧ (∀ b, C'.O b → C.O b) ∧ Ext C C' ∧ Up C C' ∧ Sat nt C' ⟨σ.env, setH σ.heap id (.fz sz l)⟩ a := by
  obtain ⟨b, T, cs, t, fr, c1, c2, h1, h2, h3, h4, h5, h6, h7, h8, h9⟩ := s.heap.at_ id _ hob
  let C' : Cx := { W := C.W, F := fun k => C.F k ∨ k = b, O := fun k => C.O k ∧ k ≠ b, ι := C.ι }
  have u : Up C C' := ⟨fun _ h => .inl h, fun _ _ => rfl, fun _ _ h => h⟩
  have hr : Reads C.W b 0 c1 := by
    have := Reads.of_block h3
    rw [h5] at this
    have := Reads.sub (c1 := []) (c := c1) (c2 := c2) (by simpa using this)
    simpa using this
  refine ⟨C', rfl, rfl, fun _ h => h.1, ⟨rfl, rfl, rfl, Nat.le_refl _, fun _ h => .inl h, fun _ _ _ => rfl, fun k hk => ?_, fun k hk => .inl hk.1, fun _ _ _ h => h⟩, u, s.defers, s.size, fun t => (s.env t).up u, ⟨fun i q hq => ?_, fun i hi => ?_, fun i j b' T' U' o q g1 g2 g3 g4 => ?_, fun k hk hF => ?_, fun k hk => ?_, fun k hk => s.heap.olt k hk.1, s.heap.gl.up u⟩⟩
  · rcases hk with hk | rfl
    · exact .inl hk
    · exact .inr (.inl h2)
  · simp only [setH] at hq
    by_cases e : i = id
    · rw [if_pos e] at hq; cases hq; subst e
      exact ⟨b, T, c1, h1, .inr rfl, hr, (h6.bare hn).up u.bare, h7, h9⟩
    · rw [if_neg e] at hq
      refine (s.heap.at_ i q hq).up u fun b2 T2 k2 k3 k4 => ⟨⟨k3, fun e2 => ?_⟩, rfl⟩
      subst e2
      exact e (s.heap.inj i id _ _ _ q _ hq k4 hob rfl k2 h1)
  · simp only [setH] at hi
    by_cases e : i = id
    · rw [if_pos e] at hi; cases hi
    · rw [if_neg e] at hi; exact s.heap.no i hi
  · simp only [setH] at g1 g3
    have g : ∀ k (q : Ob), (if k = id then some (Ob.fz sz l) else σ.heap k) = some q → q.live = true → σ.heap k = some q := by
      intro k q hk hq
      by_cases e2 : k = id
      · rw [if_pos e2] at hk; cases hk; simp [Ob.live] at hq
      · rw [if_neg e2] at hk; exact hk
    exact s.heap.inj i j b' T' U' o q (g i o g1 g2) g2 (g j q g3 g4) g4
  · rcases hF with hF | rfl
    · exact s.heap.apart k hk.1 hF
    · exact hk.2 rfl
  · rcases hk with hk | rfl
    · exact s.heap.lt k hk
    · exact s.heap.olt _ h2

theorem frz1_sat (s : Sat nt C σ a) (x : AV) : ∃ C', C'.W = C.W ∧ C'.ι = C.ι ∧ (∀ b, C'.O b → C.O b) ∧ Ext C C' ∧ Up C C' ∧ Sat nt C' ⟨σ.env, frz1 σ.heap x⟩ a := by
  have triv : ∃ C', C'.W = C.W ∧ C'.ι = C.ι ∧ (∀ b, C'.O b → C.O b) ∧ Ext C C' ∧ Up C C' ∧ Sat nt C' ⟨σ.env, σ.heap⟩ a := ⟨C, rfl, rfl, fun _ h => h, .refl C, .refl C, s⟩
  unfold frz1
  split
  · split
    · rename_i hob
      split
      · rename_i hn; exact freeze_sat s hob hn
      · exact triv
    · exact triv
  · exact triv
theorem frzL_sat : ∀ (l : List AV) {C : Cx} {σ : St}, Sat nt C σ a → ∃ C', C'.W = C.W ∧ C'.ι = C.ι ∧ (∀ b, C'.O b → C.O b) ∧ Ext C C' ∧ Up C C' ∧ Sat nt C' ⟨σ.env, frzL σ.heap l⟩ a
  | [], C, σ, s => ⟨C, rfl, rfl, fun _ h => h, .refl C, .refl C, s⟩
  | x :: l, C, σ, s => by
    obtain ⟨C1, e1, e2, e3, e4, e5, s1⟩ := frz1_sat s x
    obtain ⟨C2, f1, f2, f3, f4, f5, s2⟩ := frzL_sat l s1
    exact ⟨C2, f1.trans e1, f2.trans e2, fun b h => e3 b (f3 b h), e4.trans f4, e5.trans f5, s2⟩

theorem seeF_ok {h : Hp} (hh : HOk C h) {x : AV} {v : Value} (hx : RV C x v) (hn : (seeF h x).noid = true) : RV C.bare (seeF h x) v := by
  unfold seeF at hn ⊢
  split
  · rename_i id s off len
    simp only at hn
    split
    · rename_i q l hob
      rw [hob] at hn
      simp only at hn
      split
      · rename_i hc
        obtain ⟨rfl, hle⟩ := hc
        obtain ⟨b, T, c1, h1, h2, h3, h4, h5, h6⟩ := hh.at_ id _ hob
        generalize hl : (l.drop off).take len = q' at *
        have hlen : q'.length = len := by rw [← hl, List.length_take, List.length_drop]; omega
        cases hx with
        | ow hι hT =>
          obtain ⟨rfl, rfl⟩ := Prod.mk.inj (Option.some.inj (h1.symm.trans hι))
          obtain ⟨d1, d, d2, rfl, e1, e2⟩ := h4.cut h5 off len hle
          rw [hl] at e2
          have h7 := h3.sub
          rw [Nat.zero_add, e1] at h7
          rw [← hlen]
          rw [← hlen] at hT
          exact .sl e2 (fun y hy => h5 y (by rw [← hl] at hy; exact List.mem_of_mem_drop (List.mem_of_mem_take hy))) h2 h7 (by omega)
        | ow0 hι hT =>
          have : q' = [] := List.eq_nil_of_length_eq_zero hlen
          rw [this]; exact .sl0
      · rename_i hc
        rw [if_neg hc] at hn; simp [AV.noid] at hn
    · rename_i hob
      split at hn
      · rename_i hob2; exact absurd hob2 (hob _ _)
      · simp [AV.noid] at hn
  · rename_i hne
    split at hn
    · rename_i id s off len; exact absurd rfl (hne _ _ _ _)
    · exact hx.bare hn
theorem seeFs_ok {h : Hp} (hh : HOk C h) : ∀ {l : List AV} {vs : List Value}, RVs C l vs → AV.noids (l.map (seeF h)) = true → RVs C.bare (l.map (seeF h)) vs
  | _, _, .nil, _ => .nil
  | _, _, .cons hx hl, hn => by
    simp [AV.noids] at hn
    exact .cons (seeF_ok hh hx hn.1) (seeFs_ok hh hl (by simpa using hn.2))

/-! Rows that are read alone from now on, by their content everywhere. -/
mutual
def AV.deep (h : Hp) : AV → AV
  | .ow id s off n => seeF h (.ow id s off n)
  | .agg l => .agg (AV.deeps h l)
  | .tup l => .tup (AV.deeps h l)
  | .ifc t x => .ifc t (x.deep h)
  | .fn f l m => .fn f (AV.deeps h l) (AV.deeps h m)
  | x => x
def AV.deeps (h : Hp) : List AV → List AV
  | [] => []
  | x :: l => x.deep h :: AV.deeps h l
end
theorem seeF_eq (h : Hp) (id s off n : Nat) : seeF h (.ow id s off n) = .ow id s off n ∨ ∃ l, seeF h (.ow id s off n) = .sl s l := by
  simp only [seeF]
  split
  · split
    · exact .inr ⟨_, rfl⟩
    · exact .inl rfl
  · exact .inl rfl
theorem AV.deep_one (h : Hp) (x : AV) : (x.deep h).one = x.one := by
  cases x with
  | ow id s off n => rcases seeF_eq h id s off n with e | ⟨l, e⟩ <;> simp [AV.deep, e, AV.one]
  | raw v => rfl
  | _ => simp [AV.deep, AV.one]
mutual
theorem AV.deep_size (h : Hp) : ∀ x : AV, (x.deep h).size = x.size
  | .ow id s off n => by rcases seeF_eq h id s off n with e | ⟨l, e⟩ <;> simp [AV.deep, e, AV.size]
  | .agg l => by simp [AV.deep, AV.size, AV.deeps_sizes h l]
  | .ptr .. | .ep .. | .tup _ | .ifc .. | .fn .. | .any | .raw _ | .sl .. | .fp _ => by simp [AV.deep, AV.size]
theorem AV.deeps_sizes (h : Hp) : ∀ l : List AV, AV.sizes (AV.deeps h l) = AV.sizes l
  | [] => rfl
  | x :: l => by simp [AV.deeps, AV.sizes, AV.deep_size h x, AV.deeps_sizes h l]
end
theorem AV.deeps_mem (h : Hp) : ∀ {l : List AV} {y : AV}, y ∈ AV.deeps h l → ∃ x ∈ l, y = x.deep h
  | x :: l, y, hy => by
    simp only [AV.deeps, List.mem_cons] at hy
    rcases hy with rfl | hy
    · exact ⟨x, by simp, rfl⟩
    · obtain ⟨z, h1, h2⟩ := AV.deeps_mem h hy
      exact ⟨z, by simp [h1], h2⟩
/-- A row of one object, told by content. -/
def FzAt (C : Cx) (h : Hp) : Prop := ∀ id ob, h id = some ob → (∃ sz l, ob = .fz sz l) → HSat C id ob
theorem seeF_at {C : Cx} {h : Hp} (hf : FzAt C h) {id s off n : Nat} {v : Value} (hx : RV C (.ow id s off n) v) : RV C (seeF h (.ow id s off n)) v := by
  by_cases hn : (seeF h (.ow id s off n)).noid = true
  · simp only [seeF] at hn ⊢
    split at hn
    · rename_i q l hob
      split at hn
      · rename_i hc
        obtain ⟨rfl, hc⟩ := hc
        obtain ⟨b, T, c1, h1, h2, h3, h4, h5, h6⟩ := hf id _ hob ⟨_, _, rfl⟩
        rw [if_pos ⟨rfl, hc⟩]
        obtain ⟨d1, d, d2, e1, e2, e3⟩ := h4.cut h5 off n hc
        have hlen : ((l.drop off).take n).length = n := by simp; omega
        cases hx with
        | ow g1 g2 =>
          rw [h1] at g1; cases g1
          subst e1
          have hr := Reads.sub h3
          rw [e2] at hr
          have hmem : ∀ x ∈ (l.drop off).take n, x.size = q := fun x hx => h5 x (List.mem_of_mem_drop (List.mem_of_mem_take hx))
          cases hl : (l.drop off).take n with
          | nil => rw [hl] at hlen; simp at hlen; subst hlen; exact .sl0
          | cons y ys =>
            rw [hl] at e3 hmem hlen
            have := RV.sl (C := C) (sz := q) (c := T - off) e3 hmem h2 (by simpa using hr) (by rw [hlen]; omega)
            rw [hlen] at this
            exact this
        | ow0 g1 g2 =>
          have : ((l.drop off).take 0) = [] := by simp
          rw [this]; exact .sl0
      · simp [AV.noid] at hn
    · simp [AV.noid] at hn
  · rcases seeF_eq h id s off n with e | ⟨l, e⟩
    · rw [e]; exact hx
    · rw [e] at hn; simp [AV.noid] at hn
mutual
theorem RV.deep {C : Cx} {h : Hp} (hf : FzAt C h) {x : AV} {v : Value} (hx : RV C x v) : RV C (x.deep h) v :=
  match hx with
  | .any v => .any v
  | .raw v => .raw v
  | .agg k => .agg (k.deep hf)
  | .tup k => .tup (k.deep hf)
  | .sl0 => .sl0
  | .sl k hs hF hr hc => .sl k hs hF hr hc
  | .fp k hF hr => .fp k hF hr
  | .ptr k => .ptr k
  | .ep k => .ep k
  | .ow k hl => seeF_at hf (.ow k hl)
  | .ow0 k hl => seeF_at hf (.ow0 k hl)
  | .ifc k => .ifc (k.deep hf)
  | .fn h1 h2 => .fn (h1.deep hf) (h2.deep hf)
theorem RC.deep {C : Cx} {h : Hp} (hf : FzAt C h) {x : AV} {cs : List Value} (hx : RC C x cs) : RC C (x.deep h) cs :=
  match hx with
  | .agg k => .agg (k.deep hf)
  | .one k h1 => .one (k.deep hf) (by rw [AV.deep_one]; exact h1)
theorem RCs.deep {C : Cx} {h : Hp} (hf : FzAt C h) {l : List AV} {cs : List Value} (hx : RCs C l cs) : RCs C (AV.deeps h l) cs :=
  match hx with
  | .nil => .nil
  | .cons k k2 => .cons (k.deep hf) (k2.deep hf)
theorem RVs.deep {C : Cx} {h : Hp} (hf : FzAt C h) {l : List AV} {vs : List Value} (hx : RVs C l vs) : RVs C (AV.deeps h l) vs :=
  match hx with
  | .nil => .nil
  | .cons k k2 => .cons (k.deep hf) (k2.deep hf)
end
def Ob.deep (h : Hp) : Ob → Ob
  | .box x => .box (x.deep h)
  | .arr s l => .arr s (AV.deeps h l)
  | x => x
def deepH (h : Hp) : Hp := fun id => (h id).map (Ob.deep h)
theorem Ob.deep_live (h : Hp) (ob : Ob) : (ob.deep h).live = ob.live := by cases ob <;> rfl
theorem HOk.fzAt {C : Cx} {h : Hp} (hh : HOk C h) : FzAt C h := fun id ob h1 _ => hh.at_ id ob h1
theorem Weak.deep {e : Nat → AV} {h : Hp} : Weak ⟨e, h⟩ ⟨fun t => (e t).deep h, deepH h⟩ := fun nt C a s => by
  have hf := s.heap.fzAt
  refine ⟨C, rfl, .refl C, s.defers, s.size, fun t => (s.env t).deep hf, ⟨fun id ob hob => ?_, fun id hid => ?_, fun i j b T U o q h1 h2 h3 h4 h5 h6 => ?_, s.heap.apart, s.heap.lt, s.heap.olt, s.heap.gl⟩⟩
  · simp only [deepH, Option.map_eq_some_iff] at hob
    obtain ⟨o, h1, rfl⟩ := hob
    have := s.heap.at_ id o h1
    cases o with
    | box x =>
      obtain ⟨b, T, cs, t, q1, q2, q3, q4⟩ := this
      exact ⟨b, T, cs, t, q1, q2, q3, q4.deep hf⟩
    | arr sz l =>
      obtain ⟨b, T, cs, t, fr, c1, c2, q1, q2, q3, q4, q5, q6, q7, q8⟩ := this
      refine ⟨b, T, cs, t, fr, c1, c2, q1, q2, q3, q4, q5, q6.deep hf, fun y hy => ?_, q8⟩
      obtain ⟨x, hx, rfl⟩ := AV.deeps_mem _ hy
      rw [AV.deep_size]; exact q7 x hx
    | fz sz l => exact this
    | dead => exact this
  · simp only [deepH, Option.map_eq_none_iff] at hid
    exact s.heap.no id hid
  · simp only [deepH, Option.map_eq_some_iff] at h1 h3
    obtain ⟨o', h1, rfl⟩ := h1
    obtain ⟨q', h3, rfl⟩ := h3
    rw [Ob.deep_live] at h2 h4
    exact s.heap.inj i j b T U o' q' h1 h2 h3 h4 h5 h6

/-! Rows within rows. -/
mutual
def AV.rowsOf : AV → List AV
  | .ow id s o n => [.ow id s o n]
  | .agg l => AV.rowsOfs l
  | .tup l => AV.rowsOfs l
  | .ifc _ x => x.rowsOf
  | .fn _ l m => AV.rowsOfs l ++ AV.rowsOfs m
  | _ => []
def AV.rowsOfs : List AV → List AV
  | [] => []
  | x :: l => x.rowsOf ++ AV.rowsOfs l
end
def frzY (g : Hp) (id : Nat) : Hp := match g id with
  | some (.arr s l) => if AV.noids (AV.deeps g l) = true then setH g id (.fz s (AV.deeps g l)) else g
  | _ => g
def frzX (h : Hp) : AV → Hp
  | .ow id _ _ _ => match h id with
    | some (.arr _ l) => frzY (frzL h (AV.rowsOfs l)) id
    | _ => h
  | _ => h
def frzA (h : Hp) : List AV → Hp
  | [] => h
  | x :: l => frzA (frzX h x) l
theorem arr_deep_sat (s : Sat nt C σ a) {id sz : Nat} {l : List AV} (hob : σ.heap id = some (.arr sz l)) : Sat nt C ⟨σ.env, setH σ.heap id (.arr sz (AV.deeps σ.heap l))⟩ a := by
  have hf := s.heap.fzAt
  refine ⟨s.defers, s.size, s.env, ⟨fun i ob hi => ?_, fun i hi => ?_, fun i j b T U o q h1 h2 h3 h4 h5 h6 => ?_, s.heap.apart, s.heap.lt, s.heap.olt, s.heap.gl⟩⟩
  · simp only [setH] at hi
    split at hi
    · rename_i e; subst e; cases hi
      obtain ⟨b, T, cs, t, fr, c1, c2, q1, q2, q3, q4, q5, q6, q7, q8⟩ := s.heap.at_ _ _ hob
      refine ⟨b, T, cs, t, fr, c1, c2, q1, q2, q3, q4, q5, q6.deep hf, fun y hy => ?_, q8⟩
      obtain ⟨x, hx, rfl⟩ := AV.deeps_mem _ hy
      rw [AV.deep_size]; exact q7 x hx
    · exact s.heap.at_ i ob hi
  · simp only [setH] at hi
    split at hi
    · cases hi
    · exact s.heap.no i hi
  · have g : ∀ k (w : Ob), setH σ.heap id (.arr sz (AV.deeps σ.heap l)) k = some w → w.live = true → ∃ w', σ.heap k = some w' ∧ w'.live = true := by
      intro k w hk hw
      simp only [setH] at hk
      split at hk
      · rename_i e; subst e; exact ⟨_, hob, rfl⟩
      · exact ⟨w, hk, hw⟩
    obtain ⟨o', g1, g2⟩ := g i o h1 h2
    obtain ⟨q', g3, g4⟩ := g j q h3 h4
    exact s.heap.inj i j b T U o' q' g1 g2 g3 g4 h5 h6
theorem frzY_sat (s : Sat nt C σ a) (id : Nat) : ∃ C', C'.W = C.W ∧ C'.ι = C.ι ∧ (∀ b, C'.O b → C.O b) ∧ Ext C C' ∧ Up C C' ∧ Sat nt C' ⟨σ.env, frzY σ.heap id⟩ a := by
  have same : ∃ C', C'.W = C.W ∧ C'.ι = C.ι ∧ (∀ b, C'.O b → C.O b) ∧ Ext C C' ∧ Up C C' ∧ Sat nt C' ⟨σ.env, σ.heap⟩ a := ⟨C, rfl, rfl, fun _ h => h, .refl C, .refl C, s⟩
  unfold frzY
  split
  · rename_i sz l hob
    split
    · rename_i hn
      have s1 := arr_deep_sat s hob
      obtain ⟨C', h1, h2, h3, h4, h5, h6⟩ := freeze_sat (σ := ⟨σ.env, setH σ.heap id (.arr sz (AV.deeps σ.heap l))⟩) s1 (id := id) (sz := sz) (l := AV.deeps σ.heap l) (by simp [setH]) hn
      refine ⟨C', h1, h2, h3, h4, h5, ?_⟩
      have e : setH (setH σ.heap id (.arr sz (AV.deeps σ.heap l))) id (.fz sz (AV.deeps σ.heap l)) = setH σ.heap id (.fz sz (AV.deeps σ.heap l)) := by
        funext i; simp only [setH]; split <;> rfl
      rw [e] at h6
      exact h6
    · exact same
  · exact same
theorem frzX_sat (s : Sat nt C σ a) (x : AV) : ∃ C', C'.W = C.W ∧ C'.ι = C.ι ∧ (∀ b, C'.O b → C.O b) ∧ Ext C C' ∧ Up C C' ∧ Sat nt C' ⟨σ.env, frzX σ.heap x⟩ a := by
  have same : ∃ C', C'.W = C.W ∧ C'.ι = C.ι ∧ (∀ b, C'.O b → C.O b) ∧ Ext C C' ∧ Up C C' ∧ Sat nt C' ⟨σ.env, σ.heap⟩ a := ⟨C, rfl, rfl, fun _ h => h, .refl C, .refl C, s⟩
  cases x with
  | ow id sz o n =>
    simp only [frzX]
    split
    · rename_i l hob
      obtain ⟨C1, h1, h2, h3, h4, h5, h6⟩ := frzL_sat (AV.rowsOfs l) s
      obtain ⟨C2, k1, k2, k3, k4, k5, k6⟩ := frzY_sat h6 id
      exact ⟨C2, k1.trans h1, k2.trans h2, fun b hb => h3 b (k3 b hb), h4.trans k4, h5.trans k5, k6⟩
    · exact same
  | _ => exact same
theorem frzA_sat : ∀ (l : List AV) {C : Cx} {σ : St}, Sat nt C σ a → ∃ C', C'.W = C.W ∧ C'.ι = C.ι ∧ (∀ b, C'.O b → C.O b) ∧ Ext C C' ∧ Up C C' ∧ Sat nt C' ⟨σ.env, frzA σ.heap l⟩ a
  | [], C, σ, s => ⟨C, rfl, rfl, fun _ h => h, .refl C, .refl C, s⟩
  | x :: l, C, σ, s => by
    obtain ⟨C1, h1, h2, h3, h4, h5, h6⟩ := frzX_sat s x
    obtain ⟨C2, k1, k2, k3, k4, k5, k6⟩ := frzA_sat l h6
    exact ⟨C2, k1.trans h1, k2.trans h2, fun b hb => h3 b (k3 b hb), h4.trans k4, h5.trans k5, k6⟩

/-- The contract, used: nothing that the caller owns is changed. -/
theorem call_core {f : FuncId} {ys : List AV} {vs : List Value} {r : AV} {h : Hp} {e : Nat → AV} {nt : Nat} {a : Act} (s : Sat nt C ⟨e, h⟩ a) (hvs : RVs C.bare ys vs) (hr : CallD P f ys noHeap r noHeap) :
    Calls P f vs.toArray C.W fun en W' => ∃ v C2, en = .returned v ∧ C2.W = W' ∧ Ext C C2 ∧ Up C C2 ∧ C2.O = C.O ∧ C2.ι = C.ι ∧ Sat nt C2 ⟨e, h⟩ a ∧ RV C2 r v ∧ ∀ b, b < C.W.heap.size → C2.W.heap[b]? = C.W.heap[b]? := by
  let C1 : Cx := { W := C.W, F := C.F, O := fun _ => False, ι := fun _ => none }
  have hC : HOk C1 noHeap := ⟨fun id ob h => (by cases h), fun _ _ => rfl, fun i j b T U o q h => (by cases h), fun _ (h : False) => h.elim, s.heap.lt, fun _ (h : False) => h.elim, s.heap.gl⟩
  have hup : Up C.bare C1 := ⟨fun _ h => h, fun _ _ => rfl, fun _ _ h => by cases h⟩
  refine Calls.mono (hr C1 vs hC (hvs.up hup)) ?_
  rintro en W' ⟨v, C', rfl, rfl, ex, hok, hrv, hkp⟩
  have hh : ∀ b, b < C.W.heap.size → C'.W.heap[b]? = C.W.heap[b]? := fun b hb => ex.heap b hb (fun h => h)
  have hF' : ∀ b, C'.F b → C.F b ∨ C.W.heap.size ≤ b := fun b hb => by
    rcases ex.newF b hb with h | h | h
    · exact .inl h
    · exact h.elim
    · exact .inr h
  let C2 : Cx := { W := C'.W, F := C'.F, O := C.O, ι := C.ι }
  have u : Up C C2 := ⟨ex.F, fun b hb => hh b (s.heap.lt b hb), fun _ _ h => h⟩
  have ex2 : Ext C C2 := ⟨ex.os, ex.tape, ex.output, ex.size, ex.F, fun b hb _ => hh b hb, fun b hb => (hF' b hb).elim .inl (fun h => .inr (.inr h)), fun b hb => .inl hb, fun _ _ _ h => h⟩
  have hok2 : HOk C2 h := ⟨fun id ob g => (s.heap.at_ id ob g).up u (fun b T _ hO _ => ⟨hO, hh b (s.heap.olt b hO)⟩), s.heap.no, s.heap.inj, fun b hO hF => (hF' b hF).elim (s.heap.apart b hO) (fun g => by have := s.heap.olt b hO; omega),
    hok.lt, fun b hO => Nat.lt_of_lt_of_le (s.heap.olt b hO) ex.size, s.heap.gl.up u⟩
  have hr2 : RV C2 r v := by
    have u2 : Up C' C2 := ⟨fun _ h => h, fun _ _ => rfl, fun id p g => by
      have := hok.no id rfl
      rw [this] at g; cases g⟩
    exact hrv.up u2
  exact ⟨v, C2, rfl, rfl, ex2, u, rfl, rfl, ⟨s.defers, s.size, fun t => (s.env t).up u, hok2⟩, hr2, hh⟩

/-- A call that is handed values alone. -/
theorem snd_call0 (s : Sat nt C σ a) {c : Call} {x : Operand} (ho : o.op = .call c) (hc : c.callee = .value x) {f : FuncId} {first cap xs : List AV} (hx : calleeOf (evE σ.env x) = some (f, first, cap)) (hf : isFn P f = true)
    (hxs : first ++ c.args.toList.map (evE σ.env) ++ cap = xs) (hn : AV.noids xs = true) {r : AV} (hr : CallD P f xs noHeap r noHeap) (hd : ∀ d, o.dst = some d → d < nt)
    (K : Act → World → Prop) (Q : Exit → Act → World → Prop) (hk : ∀ C' v, Ext C C' → Sat nt C' ⟨putE σ.env o.dst r, σ.heap⟩ (a.put o.dst v) → K (a.put o.dst v) C'.W) : o.wp P a C.W K Q := by
  obtain ⟨vs, hrun, hvs⟩ := call_run s ho hc hx hf
  rw [hxs] at hvs
  unfold Oper.wp
  rw [hrun]
  refine Calls.mono (call_core s (hvs.bare hn) hr) ?_
  rintro en W' ⟨v, C2, rfl, rfl, ex, u, _, _, s2, hrv, _⟩
  exact hk C2 v ex (put_sat s2 hrv hd)
/-- A call whose rows are lent: what comes back leads nowhere. -/
theorem snd_callB (s : Sat nt C σ a) {c : Call} {x : Operand} (ho : o.op = .call c) (hc : c.callee = .value x) {f : FuncId} {first cap xs : List AV} (hx : calleeOf (evE σ.env x) = some (f, first, cap)) (hf : isFn P f = true)
    (hxs : first ++ c.args.toList.map (evE σ.env) ++ cap = xs) (hn : AV.noids (AV.deeps (frzA σ.heap (AV.rowsOfs xs)) xs) = true) {r : AV} (hr : CallD P f (AV.deeps (frzA σ.heap (AV.rowsOfs xs)) xs) noHeap r noHeap) (hflat : r.flat = true) (hd : ∀ d, o.dst = some d → d < nt)
    (K : Act → World → Prop) (Q : Exit → Act → World → Prop) (hk : ∀ C' v, Ext C C' → Sat nt C' ⟨putE σ.env o.dst r, σ.heap⟩ (a.put o.dst v) → K (a.put o.dst v) C'.W) : o.wp P a C.W K Q := by
  obtain ⟨vs, hrun, hvs⟩ := call_run s ho hc hx hf
  rw [hxs] at hvs
  unfold Oper.wp
  rw [hrun]
  obtain ⟨C1, e1, e2, e3, e4, e5, s1⟩ := frzA_sat (AV.rowsOfs xs) s
  have := call_core s1 (((hvs.up e5).deep s1.heap.fzAt).bare hn) hr
  rw [e1] at this
  refine Calls.mono this ?_
  rintro en W' ⟨v, C2, rfl, rfl, ex, u, _, _, s2, hrv, hh⟩
  let C3 : Cx := { W := C2.W, F := C.F, O := C.O, ι := C.ι }
  have hsz : C.W.heap.size ≤ C2.W.heap.size := by rw [← e1]; exact ex.size
  have u3 : Up C C3 := ⟨fun _ h => h, fun b hb => hh b (s.heap.lt b hb), fun _ _ h => h⟩
  have ex3 : Ext C C3 := ⟨ex.os.trans e4.os, ex.tape.trans e4.tape, ex.output.trans e4.output, hsz, fun _ h => h, fun b hb _ => hh b hb, fun _ h => .inl h, fun _ h => .inl h, fun _ _ _ h => h⟩
  refine hk C3 v ex3 (put_sat (e := σ.env) (h := σ.heap) ⟨s.defers, s.size, fun t => (s.env t).up u3, ⟨fun id ob g => (s.heap.at_ id ob g).up u3 (fun b T _ hO _ => ⟨hO, hh b (s.heap.olt b hO)⟩), s.heap.no, s.heap.inj, s.heap.apart, fun b hb => Nat.lt_of_lt_of_le (s.heap.lt b hb) hsz, fun b hb => Nat.lt_of_lt_of_le (s.heap.olt b hb) hsz, s.heap.gl.up u3⟩⟩ (hrv.of_flat hflat) hd)

/-! ### Calls that are handed objects -/
mutual
/-- Are all objects that a value leads to among these? -/
def AV.within (hs : Hp) : AV → Bool
  | .ptr id _ | .ep id _ _ _ | .ow id _ _ _ => (hs id).isSome
  | .any => false
  | .agg l => AV.withins hs l
  | .tup l => AV.withins hs l
  | .ifc _ x => x.within hs
  | .fn _ l m => AV.withins hs l && AV.withins hs m
  | _ => true
def AV.withins (hs : Hp) : List AV → Bool
  | [] => true
  | x :: l => x.within hs && AV.withins hs l
end
def subC (C : Cx) (hs : Hp) (O : Nat → Prop) : Cx := { W := C.W, F := C.F, O := O, ι := fun id => if (hs id).isSome then C.ι id else none }
theorem subC_bare (C : Cx) (hs : Hp) (O : Nat → Prop) : Up C.bare (subC C hs O).bare := ⟨fun _ h => h, fun _ _ => rfl, fun _ _ h => by cases h⟩
mutual
theorem RV.sub {C : Cx} {hs : Hp} {O : Nat → Prop} {x : AV} {v : Value} (h : RV C x v) (hn : x.within hs = true) : RV (subC C hs O) x v :=
  match h with
  | .raw v => .raw v
  | .agg h => .agg (h.sub (by simpa [AV.within] using hn))
  | .tup h => .tup (h.sub (by simpa [AV.within] using hn))
  | .sl0 => .sl0
  | .sl h hs hF hr hc => .sl (h.up (subC_bare C _ O)) hs hF hr hc
  | .fp h hF hr => .fp (h.up (subC_bare C _ O)) hF hr
  | .ifc h => .ifc (h.sub (by simpa [AV.within] using hn))
  | .fn h1 h2 => by
    simp [AV.within] at hn
    exact .fn (h1.sub hn.1) (h2.sub hn.2)
  | .any _ => by simp [AV.within] at hn
  | .ptr h => by
    simp [AV.within] at hn
    exact .ptr (by simp [subC, hn]; exact h)
  | .ep h => by
    simp [AV.within] at hn
    exact .ep (by simp [subC, hn]; exact h)
  | .ow h hl => by
    simp [AV.within] at hn
    exact .ow (by simp [subC, hn]; exact h) hl
  | .ow0 h hl => by
    simp [AV.within] at hn
    exact .ow0 (by simp [subC, hn]; exact h) hl
theorem RC.sub {C : Cx} {hs : Hp} {O : Nat → Prop} {x : AV} {cs : List Value} (h : RC C x cs) (hn : x.within hs = true) : RC (subC C hs O) x cs :=
  match h with
  | .agg h => .agg (h.sub (by simpa [AV.within] using hn))
  | .one h h1 => .one (h.sub hn) h1
theorem RCs.sub {C : Cx} {hs : Hp} {O : Nat → Prop} {l : List AV} {cs : List Value} (h : RCs C l cs) (hn : AV.withins hs l = true) : RCs (subC C hs O) l cs :=
  match h with
  | .nil => .nil
  | .cons h h2 => by
    simp [AV.withins] at hn
    exact .cons (h.sub hn.1) (h2.sub hn.2)
theorem RVs.sub {C : Cx} {hs : Hp} {O : Nat → Prop} {l : List AV} {vs : List Value} (h : RVs C l vs) (hn : AV.withins hs l = true) : RVs (subC C hs O) l vs :=
  match h with
  | .nil => .nil
  | .cons h h2 => by
    simp [AV.withins] at hn
    exact .cons (h.sub hn.1) (h2.sub hn.2)
end
def Ob.within (hs : Hp) : Ob → Bool
  | .box x => x.within hs
  | .arr _ l => AV.withins hs l
  | _ => true
/-- The memory behind a call that was handed hs and handed back hs'. -/
def backH (h hs hs' : Hp) : Hp := fun id => if (hs id).isSome then hs' id else if (hs' id).isSome then hs' id else h id

theorem callS_core (s : Sat nt C σ a) {f : FuncId} {xs : List AV} {vs : List Value} (hvs : RVs C xs vs) {hs hs' : Hp} (hsub : ∀ id ob, hs id = some ob → σ.heap id = some ob ∧ ob.within hs = true) (hn : AV.withins hs xs = true) {r : AV} (hr : CallD P f xs hs r hs') (hnew : ∀ id, (hs' id).isSome = true → (hs id).isSome = true ∨ σ.heap id = none) :
    Calls P f vs.toArray C.W fun en W' => ∃ v C2, en = .returned v ∧ C2.W = W' ∧ Ext C C2 ∧ Sat nt C2 ⟨σ.env, backH σ.heap hs hs'⟩ a ∧ RV C2 r v := by
  let O1 : Nat → Prop := fun b => ∃ id ob T, hs id = some ob ∧ ob.live = true ∧ C.ι id = some (b, T) ∧ C.O b
  have hO1 : ∀ b, O1 b → C.O b := fun b ⟨_, _, _, _, _, _, h⟩ => h
  have hι1 : ∀ id ob, hs id = some ob → (subC C hs O1).ι id = C.ι id := fun id ob h => by simp [subC, h]
  have hC : HOk (subC C hs O1) hs := by
    refine ⟨fun id ob h => ?_, fun id h => by simp [subC, h], fun i j b T U o' q h1 h2 h3 h4 h5 h6 => ?_, fun b hb hF => s.heap.apart b (hO1 b hb) hF, s.heap.lt, fun b hb => s.heap.olt b (hO1 b hb), s.heap.gl⟩
    · obtain ⟨h1, h2⟩ := hsub id ob h
      have h3 := s.heap.at_ id ob h1
      have hι := hι1 id ob h
      cases ob with
      | box y =>
        obtain ⟨b, T, cs, t, k1, k2, k3, k4⟩ := h3
        exact ⟨b, T, cs, t, hι.trans k1, ⟨id, _, T, h, rfl, k1, k2⟩, k3, k4.sub h2⟩
      | arr sz l =>
        obtain ⟨b, T, cs, t, fr, c1, c2, k1, k2, k3, k4, k5, k6, k7⟩ := h3
        exact ⟨b, T, cs, t, fr, c1, c2, hι.trans k1, ⟨id, _, T, h, rfl, k1, k2⟩, k3, k4, k5, k6.sub h2, k7⟩
      | fz sz l =>
        obtain ⟨b, T, c1, k1, k2, k3, k4, k5⟩ := h3
        exact ⟨b, T, c1, hι.trans k1, k2, k3, k4.up (subC_bare C hs O1), k5⟩
      | dead =>
        obtain ⟨b, T, k1⟩ := h3
        exact ⟨b, T, hι.trans k1⟩
    · rw [hι1 i _ h1] at h5
      rw [hι1 j _ h3] at h6
      exact s.heap.inj i j b T U o' q (hsub i _ h1).1 h2 (hsub j _ h3).1 h4 h5 h6
  refine Calls.mono (hr (subC C hs O1) vs hC (hvs.sub hn)) ?_
  rintro en W' ⟨v, C', rfl, rfl, ex, hok, hrv, hkp⟩
  have hsz : C.W.heap.size ≤ C'.W.heap.size := ex.size
  have hh : ∀ b, b < C.W.heap.size → ¬ O1 b → C'.W.heap[b]? = C.W.heap[b]? := fun b hb hn => ex.heap b hb hn
  have hF' : ∀ b, C'.F b → C.F b ∨ O1 b ∨ C.W.heap.size ≤ b := ex.newF
  have hO' : ∀ b, C'.O b → O1 b ∨ C.W.heap.size ≤ b := ex.newO
  have hkeep : ∀ id ob, hs id = some ob → C'.ι id = C.ι id := by
    intro id ob h
    cases hq : C.ι id with
    | none =>
      obtain ⟨h1, _⟩ := hsub id ob h
      have h3 := s.heap.at_ id ob h1
      exfalso
      cases ob with
      | box y => obtain ⟨b, T, cs, t, k1, _⟩ := h3; rw [hq] at k1; cases k1
      | arr sz l => obtain ⟨b, T, cs, t, fr, c1, c2, k1, _⟩ := h3; rw [hq] at k1; cases k1
      | fz sz l => obtain ⟨b, T, c1, k1, _⟩ := h3; rw [hq] at k1; cases k1
      | dead => obtain ⟨b, T, k1⟩ := h3; rw [hq] at k1; cases k1
    | some p => exact hkp id p ((hι1 id ob h).trans hq)
  let C2 : Cx := { W := C'.W, F := C'.F, O := fun b => (C.O b ∧ ¬ O1 b) ∨ C'.O b, ι := fun id => if (hs' id).isSome ∧ ¬ (hs id).isSome then C'.ι id else C.ι id }
  have u : Up C C2 := by
    refine ⟨ex.F, fun b hb => hh b (s.heap.lt b hb) (fun ho => s.heap.apart b (hO1 b ho) hb), fun id p hp => ?_⟩
    show (if _ then _ else _) = _
    rw [if_neg]
    · exact hp
    · rintro ⟨h1, h2⟩
      rcases hnew id h1 with h | h
      · exact h2 h
      · rw [s.heap.no id h] at hp; cases hp
  have u' : Up C' C2 := by
    refine ⟨fun _ h => h, fun _ _ => rfl, fun id p hp => ?_⟩
    show (if _ then _ else _) = _
    split
    · exact hp
    · rename_i h1
      cases hi : hs id with
      | some ob => rw [← hkeep id ob hi]; exact hp
      | none =>
        cases hi' : hs' id with
        | some ob => exact absurd ⟨by rw [hi']; rfl, by rw [hi]; simp⟩ h1
        | none => rw [hok.no id hi'] at hp; cases hp
  have old : ∀ id ob, hs id = none → hs' id = none → σ.heap id = some ob → HSat C2 id ob ∧ C2.ι id = C.ι id := by
    intro id ob h1 h2 h3
    have e1 : C2.ι id = C.ι id := by
      show (if _ then _ else _) = _
      rw [if_neg (by rw [h2]; simp)]
    refine ⟨(s.heap.at_ id ob h3).up u fun b T k1 k2 k3 => ?_, e1⟩
    have hno : ¬ O1 b := by
      rintro ⟨i, o', T', g1, g2, g3, _⟩
      have := s.heap.inj id i b T T' ob o' h3 k3 (hsub i o' g1).1 g2 k1 g3
      rw [this, g1] at h1; cases h1
    exact ⟨.inl ⟨k2, hno⟩, hh b (s.heap.olt b k2) hno⟩
  have new : ∀ id ob, hs' id = some ob → HSat C2 id ob := fun id ob h => (hok.at_ id ob h).up u' fun b T k1 k2 k3 => ⟨.inr k2, rfl⟩
  have ex2 : Ext C C2 := by
    refine ⟨ex.os, ex.tape, ex.output, hsz, ex.F, fun b hb hn => hh b hb (fun h => hn (hO1 b h)), fun b hb => ?_, fun b hb => ?_, fun id p _ h => u.ι id p h⟩
    · rcases hF' b hb with h | h | h
      · exact .inl h
      · exact .inr (.inl (hO1 b h))
      · exact .inr (.inr h)
    · rcases hb with hb | hb
      · exact .inl hb.1
      · exact (hO' b hb).imp (hO1 b) id
  have hsat : Sat nt C2 ⟨σ.env, backH σ.heap hs hs'⟩ a := by
    refine ⟨s.defers, s.size, fun t => (s.env t).up u, ⟨fun id ob h => ?_, fun id h => ?_, fun i j b T U o' q h1 h2 h3 h4 h5 h6 => ?_, fun b hb hF => ?_, hok.lt, fun b hb => ?_, s.heap.gl.up u⟩⟩
    · simp only [backH] at h
      split at h
      · exact new id ob h
      · split at h
        · exact new id ob h
        · rename_i g1 g2
          exact (old id ob (by simpa using g1) (by simpa using g2) h).1
    · simp only [backH] at h
      split at h
      · rename_i g1
        obtain ⟨ob, hob⟩ := Option.isSome_iff_exists.1 g1
        show (if _ then _ else _) = _
        rw [if_neg (by rw [h]; simp), ← hkeep id ob hob]
        exact hok.no id h
      · split at h
        · rename_i g2; rw [h] at g2; cases g2
        · rename_i g1 g2
          show (if _ then _ else _) = _
          rw [if_neg (by simp [g2])]
          exact s.heap.no id h
    · have cl : ∀ k (w : Ob), backH σ.heap hs hs' k = some w → (hs' k = some w ∧ C2.ι k = C'.ι k) ∨ (hs k = none ∧ hs' k = none ∧ σ.heap k = some w ∧ C2.ι k = C.ι k) := by
        intro k w hk
        simp only [backH] at hk
        split at hk
        · rename_i g1
          obtain ⟨ob, hob⟩ := Option.isSome_iff_exists.1 g1
          refine .inl ⟨hk, ?_⟩
          show (if _ then _ else _) = _
          rw [if_neg (by simp [g1]), hkeep k ob hob]
        · split at hk
          · rename_i g1 g2
            refine .inl ⟨hk, ?_⟩
            show (if _ then _ else _) = _
            rw [if_pos ⟨g2, g1⟩]
          · rename_i g1 g2
            have g1 : hs k = none := by simpa using g1
            have g2 : hs' k = none := by simpa using g2
            exact .inr ⟨g1, g2, hk, (old k w g1 g2 hk).2⟩
      have oldb : ∀ k (w : Ob) b T, hs k = none → σ.heap k = some w → w.live = true → C.ι k = some (b, T) → C.O b ∧ ¬ O1 b := by
        intro k w b T k0 k1 k2 k3
        obtain ⟨b2, T2, e, hO⟩ := (s.heap.at_ k w k1).live_at k2
        rw [k3] at e; cases e
        refine ⟨hO, ?_⟩
        rintro ⟨i, o', T', g1, g2, g3, _⟩
        have := s.heap.inj k i b T T' w o' k1 k2 (hsub i o' g1).1 g2 k3 g3
        rw [this, g1] at k0; cases k0
      have newb : ∀ k (w : Ob) b T, hs' k = some w → w.live = true → C'.ι k = some (b, T) → C'.O b := by
        intro k w b T k1 k2 k3
        obtain ⟨b2, T2, e, hO⟩ := (hok.at_ k w k1).live_at k2
        rw [k3] at e; cases e
        exact hO
      rcases cl i o' h1 with ⟨a1, a2⟩ | ⟨a0, a0', a1, a2⟩ <;> rcases cl j q h3 with ⟨b1, b2⟩ | ⟨b0, b0', b1, b2⟩ <;> rw [a2] at h5 <;> rw [b2] at h6
      · exact hok.inj i j b T U o' q a1 h2 b1 h4 h5 h6
      · obtain ⟨x1, x2⟩ := oldb j q b U b0 b1 h4 h6
        rcases hO' b (newb i o' b T a1 h2 h5) with h | h
        · exact absurd h x2
        · have := s.heap.olt b x1; omega
      · obtain ⟨x1, x2⟩ := oldb i o' b T a0 a1 h2 h5
        rcases hO' b (newb j q b U b1 h4 h6) with h | h
        · exact absurd h x2
        · have := s.heap.olt b x1; omega
      · exact s.heap.inj i j b T U o' q a1 h2 b1 h4 h5 h6
    · rcases hb with hb | hb
      · rcases hF' b hF with h | h | h
        · exact s.heap.apart b hb.1 h
        · exact hb.2 h
        · have := s.heap.olt b hb.1; omega
      · exact hok.apart b hb hF
    · rcases hb with hb | hb
      · exact Nat.lt_of_lt_of_le (s.heap.olt b hb.1) hsz
      · exact hok.olt b hb
  exact ⟨v, C2, rfl, rfl, ex2, hsat, hrv.up u'⟩
/-- A call that is handed objects, and rows that are only read from then on. -/
theorem snd_callS (s : Sat nt C σ a) {c : Call} {x : Operand} (ho : o.op = .call c) (hc : c.callee = .value x) {f : FuncId} {first cap xs : List AV} (hx : calleeOf (evE σ.env x) = some (f, first, cap)) (hf : isFn P f = true)
    (hxs : first ++ c.args.toList.map (evE σ.env) ++ cap = xs) {hs hs' : Hp} (hsub : ∀ id ob, hs id = some ob → frzA σ.heap (AV.rowsOfs xs) id = some ob ∧ ob.within hs = true) (hn : AV.withins hs (AV.deeps (frzA σ.heap (AV.rowsOfs xs)) xs) = true) {r : AV} (hr : CallD P f (AV.deeps (frzA σ.heap (AV.rowsOfs xs)) xs) hs r hs') (hnew : ∀ id, (hs' id).isSome = true → (hs id).isSome = true ∨ frzA σ.heap (AV.rowsOfs xs) id = none)
    (hd : ∀ d, o.dst = some d → d < nt)
    (K : Act → World → Prop) (Q : Exit → Act → World → Prop) (hk : ∀ C' v, Ext C C' → Sat nt C' ⟨putE σ.env o.dst r, backH (frzA σ.heap (AV.rowsOfs xs)) hs hs'⟩ (a.put o.dst v) → K (a.put o.dst v) C'.W) : o.wp P a C.W K Q := by
  obtain ⟨vs, hrun, hvs⟩ := call_run s ho hc hx hf
  rw [hxs] at hvs
  unfold Oper.wp
  rw [hrun]
  obtain ⟨C1, e1, e2, e3, e4, e5, s1⟩ := frzA_sat (AV.rowsOfs xs) s
  have := callS_core s1 ((hvs.up e5).deep s1.heap.fzAt) hsub hn hr hnew
  rw [e1] at this
  refine Calls.mono this ?_
  rintro en W' ⟨v, C2, rfl, rfl, ex, hsat, hrv⟩
  exact hk C2 v (e4.trans ex) (put_sat hsat hrv hd)
theorem noid_within : (∀ x : AV, x.noid = true → x.within noHeap = true) ∧ ∀ l : List AV, AV.noids l = true → AV.withins noHeap l = true := by
  refine ⟨fun x => ?_, fun l => ?_⟩
  · refine AV.rec (motive_1 := fun x => x.noid = true → x.within noHeap = true) (motive_2 := fun l => AV.noids l = true → AV.withins noHeap l = true) ?_ ?_ ?_ ?_ ?_ ?_ ?_ ?_ ?_ ?_ ?_ ?_ ?_ x <;> intros <;> simp_all [AV.noid, AV.within, AV.noids, AV.withins]
  · refine AV.rec_1 (motive_1 := fun x => x.noid = true → x.within noHeap = true) (motive_2 := fun l => AV.noids l = true → AV.withins noHeap l = true) ?_ ?_ ?_ ?_ ?_ ?_ ?_ ?_ ?_ ?_ ?_ ?_ ?_ l <;> intros <;> simp_all [AV.noid, AV.within, AV.noids, AV.withins]
theorem backH_new {h : Hp} {q : Nat} {ob : Ob} : backH h noHeap (setH noHeap q ob) = setH h q ob := by
  funext id
  simp only [backH, noHeap, setH]
  by_cases e : id = q <;> simp [e]
theorem snd_callO (s : Sat nt C σ a) {c : Call} {x : Operand} (ho : o.op = .call c) (hc : c.callee = .value x) {f : FuncId} {first cap xs : List AV} (hx : calleeOf (evE σ.env x) = some (f, first, cap)) (hf : isFn P f = true)
    (hxs : first ++ c.args.toList.map (evE σ.env) ++ cap = xs) (hn : AV.noids xs = true) {r : AV} {q : Nat} {ob : Ob} (hq : σ.heap q = none) (hr : CallD P f xs noHeap r (setH noHeap q ob)) (hd : ∀ d, o.dst = some d → d < nt)
    (K : Act → World → Prop) (Q : Exit → Act → World → Prop) (hk : ∀ C' v, Ext C C' → Sat nt C' ⟨putE σ.env o.dst r, setH σ.heap q ob⟩ (a.put o.dst v) → K (a.put o.dst v) C'.W) : o.wp P a C.W K Q := by
  obtain ⟨vs, hrun, hvs⟩ := call_run s ho hc hx hf
  rw [hxs] at hvs
  unfold Oper.wp
  rw [hrun]
  have := callS_core s hvs (hs := noHeap) (hs' := setH noHeap q ob) (fun id ob h => by cases h) (noid_within.2 _ hn) hr (fun id h => by
    by_cases e : id = q
    · subst e; exact .inr hq
    · simp [setH, e, noHeap] at h)
  rw [backH_new] at this
  refine Calls.mono this ?_
  rintro en W' ⟨v, C2, rfl, rfl, ex, hsat, hrv⟩
  exact hk C2 v ex (put_sat hsat hrv hd)
/-- A call of a function that is handed nothing, and makes a row: its own name for the row. -/
theorem snd_callN (s : Sat nt C σ a) {c : Call} {x : Operand} (ho : o.op = .call c) (hc : c.callee = .value x) {f : FuncId} {first cap xs : List AV} (hx : calleeOf (evE σ.env x) = some (f, first, cap)) (hf : isFn P f = true)
    (hxs : first ++ c.args.toList.map (evE σ.env) ++ cap = xs) (hn : AV.noids xs = true) {r : AV} {q : Nat} (hq : σ.heap q = none) (hr : CallD P f xs noHeap r noHeap) (hd : ∀ d, o.dst = some d → d < nt)
    (K : Act → World → Prop) (Q : Exit → Act → World → Prop) (hk : ∀ C' v, Ext C C' → Sat nt C' ⟨putE σ.env o.dst r, setH σ.heap q .dead⟩ (a.put o.dst v) → K (a.put o.dst v) C'.W) : o.wp P a C.W K Q := by
  obtain ⟨vs, hrun, hvs⟩ := call_run s ho hc hx hf
  rw [hxs] at hvs
  unfold Oper.wp
  rw [hrun]
  refine Calls.mono (call_core s (hvs.bare hn) hr) ?_
  rintro en W' ⟨v, C2, rfl, rfl, ex, u, e1, e2, s2, hrv, hh⟩
  let C3 : Cx := { C2 with ι := fun i => if i = q then some (0, 0) else C2.ι i }
  have hq2 : C2.ι q = none := s2.heap.no q hq
  have u3 : Up C2 C3 := ⟨fun _ h => h, fun _ _ => rfl, fun i p hp => by
    show (if _ then _ else _) = _
    rw [if_neg (fun e => by subst e; rw [hq2] at hp; cases hp)]; exact hp⟩
  have ex3 : Ext C2 C3 := ⟨rfl, rfl, rfl, Nat.le_refl _, fun _ h => h, fun _ _ _ => rfl, fun _ h => .inl h, fun _ h => .inl h, fun i p _ h => u3.ι i p h⟩
  have s3 : Sat nt C3 ⟨σ.env, setH σ.heap q .dead⟩ a := by
    refine ⟨s2.defers, s2.size, fun t => (s2.env t).up u3, ⟨fun i ob hi => ?_, fun i hi => ?_, fun i j b T U o w h1 h2 h3 h4 h5 h6 => ?_, s2.heap.apart, s2.heap.lt, s2.heap.olt, s2.heap.gl.up u3⟩⟩
    · simp only [setH] at hi
      split at hi
      · rename_i e; subst e; cases hi
        exact ⟨0, 0, by simp [C3]⟩
      · exact (s2.heap.at_ i ob hi).up u3 fun b T _ hO _ => ⟨hO, rfl⟩
    · simp only [setH] at hi
      split at hi
      · cases hi
      · rename_i e
        show (if _ then _ else _) = _
        rw [if_neg e]; exact s2.heap.no i hi
    · have g : ∀ k (w : Ob), setH σ.heap q .dead k = some w → w.live = true → k ≠ q ∧ σ.heap k = some w := by
        intro k w hk hw
        simp only [setH] at hk
        split at hk
        · cases hk; simp [Ob.live] at hw
        · exact ⟨‹_›, hk⟩
      obtain ⟨g1, g2⟩ := g i o h1 h2
      obtain ⟨g3, g4⟩ := g j w h3 h4
      have k1 : C2.ι i = some (b, T) := by
        have : (if i = q then some (0, 0) else C2.ι i) = some (b, T) := h5
        rwa [if_neg g1] at this
      have k2 : C2.ι j = some (b, U) := by
        have : (if j = q then some (0, 0) else C2.ι j) = some (b, U) := h6
        rwa [if_neg g3] at this
      exact s2.heap.inj i j b T U o w g2 h2 g4 h4 k1 k2
  exact hk C3 v (ex.trans ex3) (put_sat s3 (hrv.up u3) hd)
end Go.Proofs.YtngeckkebejhiaaDoor.Asl
