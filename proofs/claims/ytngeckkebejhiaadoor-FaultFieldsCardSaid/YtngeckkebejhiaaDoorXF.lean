/- A variable of the call's own that is only read from now on. -/
import Derived.Test.YtngeckkebejhiaaDoorAZ
namespace Go.Proofs.YtngeckkebejhiaaDoor.Asl
open Go Go.RowKit
set_option linter.unusedVariables false
set_option linter.unusedSimpArgs false
variable {P : Program} {nt : Nat} {C : Cx} {σ : St} {a : Act} {e : Nat → AV} {h : Hp}
mutual
def AV.fzb (k : Nat) (X : AV) : AV → AV
  | .ptr id off => if id = k ∧ off = 0 then .fp X else .ptr id off
  | .agg l => .agg (AV.fzbs k X l)
  | .tup l => .tup (AV.fzbs k X l)
  | .ifc t x => .ifc t (AV.fzb k X x)
  | .fn f l m => .fn f (AV.fzbs k X l) (AV.fzbs k X m)
  | x => x
def AV.fzbs (k : Nat) (X : AV) : List AV → List AV
  | [] => []
  | x :: l => AV.fzb k X x :: AV.fzbs k X l
end
theorem AV.fzb_one (k : Nat) (X x : AV) : (AV.fzb k X x).one = x.one := by
  cases x with
  | ptr id off => simp only [AV.fzb]; split <;> simp [AV.one]
  | raw v => rfl
  | _ => simp [AV.fzb, AV.one]
mutual
theorem AV.fzb_size (k : Nat) (X : AV) : ∀ x : AV, (AV.fzb k X x).size = x.size
  | .ptr id off => by simp only [AV.fzb]; split <;> simp [AV.size]
  | .agg l => by simp [AV.fzb, AV.size, AV.fzbs_sizes k X l]
  | .ow .. | .ep .. | .tup _ | .ifc .. | .fn .. | .any | .raw _ | .sl .. | .fp _ => by simp [AV.fzb, AV.size]
theorem AV.fzbs_sizes (k : Nat) (X : AV) : ∀ l : List AV, AV.sizes (AV.fzbs k X l) = AV.sizes l
  | [] => rfl
  | x :: l => by simp [AV.fzbs, AV.sizes, AV.fzb_size k X x, AV.fzbs_sizes k X l]
end
theorem AV.fzbs_mem (k : Nat) (X : AV) : ∀ {l : List AV} {y : AV}, y ∈ AV.fzbs k X l → ∃ x ∈ l, y = AV.fzb k X x
  | x :: l, y, hy => by
    simp only [AV.fzbs, List.mem_cons] at hy
    rcases hy with rfl | hy
    · exact ⟨x, by simp, rfl⟩
    · obtain ⟨z, h1, h2⟩ := AV.fzbs_mem k X hy
      exact ⟨z, by simp [h1], h2⟩
structure FzB (C : Cx) (k : Nat) (X : AV) : Prop where
  at_ : ∃ b T cs, C.ι k = some (b, T) ∧ C.F b ∧ Reads C.W b 0 cs ∧ RC C.bare X cs
theorem FzB.ptr {k : Nat} {X : AV} (f : FzB C k X) {id off : Nat} {v : Value} (hx : RV C (.ptr id off) v) : RV C (AV.fzb k X (.ptr id off)) v := by
  simp only [AV.fzb]
  split
  · rename_i hc
    obtain ⟨rfl, rfl⟩ := hc
    obtain ⟨b, T, cs, h1, h2, h3, h4⟩ := f.at_
    cases hx with
    | ptr g => rw [h1] at g; cases g; exact .fp h4 h2 h3
  · exact hx
mutual
theorem RV.fzb {C : Cx} {k : Nat} {X : AV} (f : FzB C k X) {x : AV} {v : Value} (hx : RV C x v) : RV C (AV.fzb k X x) v :=
  match hx with
  | .any v => .any v
  | .raw v => .raw v
  | .agg q => .agg (q.fzb f)
  | .tup q => .tup (q.fzb f)
  | .sl0 => .sl0
  | .sl q hs hF hr hc => .sl q hs hF hr hc
  | .fp q hF hr => .fp q hF hr
  | .ptr q => f.ptr (.ptr q)
  | .ep q => .ep q
  | .ow q hl => .ow q hl
  | .ow0 q hl => .ow0 q hl
  | .ifc q => .ifc (q.fzb f)
  | .fn h1 h2 => .fn (h1.fzb f) (h2.fzb f)
theorem RC.fzb {C : Cx} {k : Nat} {X : AV} (f : FzB C k X) {x : AV} {cs : List Value} (hx : RC C x cs) : RC C (AV.fzb k X x) cs :=
  match hx with
  | .agg q => .agg (q.fzb f)
  | .one q h1 => .one (q.fzb f) (by rw [AV.fzb_one]; exact h1)
theorem RCs.fzb {C : Cx} {k : Nat} {X : AV} (f : FzB C k X) {l : List AV} {cs : List Value} (hx : RCs C l cs) : RCs C (AV.fzbs k X l) cs :=
  match hx with
  | .nil => .nil
  | .cons q q2 => .cons (q.fzb f) (q2.fzb f)
theorem RVs.fzb {C : Cx} {k : Nat} {X : AV} (f : FzB C k X) {l : List AV} {vs : List Value} (hx : RVs C l vs) : RVs C (AV.fzbs k X l) vs :=
  match hx with
  | .nil => .nil
  | .cons q q2 => .cons (q.fzb f) (q2.fzb f)
end
def Ob.fzb (k : Nat) (X : AV) : Ob → Ob
  | .box x => .box (AV.fzb k X x)
  | .arr s l => .arr s (AV.fzbs k X l)
  | x => x
theorem Ob.fzb_live (k : Nat) (X : AV) (ob : Ob) : (ob.fzb k X).live = ob.live := by cases ob <;> rfl
def fzbH (k : Nat) (X : AV) (h : Hp) : Hp := fun i => if i = k then some .dead else (h i).map (Ob.fzb k X)
theorem Weak.fzb {k : Nat} {X : AV} (hob : h k = some (.box X)) (hn : X.noid = true) : Weak ⟨e, h⟩ ⟨fun t => AV.fzb k X (e t), fzbH k X h⟩ := fun nt C a s => by
  obtain ⟨b, T, cs, t, h1, h2, h3, h4⟩ := s.heap.at_ k _ hob
  let C' : Cx := { W := C.W, F := fun k => C.F k ∨ k = b, O := fun k => C.O k ∧ k ≠ b, ι := C.ι }
  have u : Up C C' := ⟨fun _ h => .inl h, fun _ _ => rfl, fun _ _ h => h⟩
  have hr : Reads C.W b 0 cs.toList := Reads.of_block h3
  have f : FzB C' k X := ⟨b, T, cs.toList, h1, .inr rfl, hr, (h4.bare hn).up u.bare⟩
  refine ⟨C', rfl, ⟨rfl, rfl, rfl, Nat.le_refl _, fun _ h => .inl h, fun _ _ _ => rfl, fun k hk => ?_, fun k hk => .inl hk.1, fun _ _ _ h => h⟩, s.defers, s.size, fun t => ((s.env t).up u).fzb f, ⟨fun i q hq => ?_, fun i hi => ?_, fun i j b' T' U' o q g1 g2 g3 g4 g5 g6 => ?_, fun k hk hF => ?_, fun k hk => ?_, fun k hk => s.heap.olt k hk.1, s.heap.gl.up u⟩⟩
  · rcases hk with hk | rfl
    · exact .inl hk
    · exact .inr (.inl h2)
  · simp only [fzbH] at hq
    by_cases e : i = k
    · rw [if_pos e] at hq; cases hq; subst e
      exact ⟨b, T, h1⟩
    · rw [if_neg e] at hq
      obtain ⟨o, ho, rfl⟩ := Option.map_eq_some_iff.1 hq
      have hs : HSat C' i o := by
        refine (s.heap.at_ i o ho).up u fun b2 T2 k2 k3 k4 => ⟨⟨k3, fun e2 => ?_⟩, rfl⟩
        subst e2
        exact e (s.heap.inj i k _ _ _ o _ ho k4 hob rfl k2 h1)
      cases o with
      | box x =>
        obtain ⟨b, T, cs, t, q1, q2, q3, q4⟩ := hs
        exact ⟨b, T, cs, t, q1, q2, q3, q4.fzb f⟩
      | arr sz l =>
        obtain ⟨b, T, cs, t, fr, c1, c2, q1, q2, q3, q4, q5, q6, q7, q8, q9⟩ := hs
        refine ⟨b, T, cs, t, fr, c1, c2, q1, q2, q3, q4, q5, q6.fzb f, fun y hy => ?_, q8, q9⟩
        obtain ⟨x, hx, rfl⟩ := AV.fzbs_mem k X hy
        rw [AV.fzb_size]; exact q7 x hx
      | fz sz l => exact hs
      | dead => exact hs
  · simp only [fzbH] at hi
    by_cases e : i = k
    · rw [if_pos e] at hi; cases hi
    · rw [if_neg e] at hi; exact s.heap.no i (by simpa using hi)
  · have g : ∀ i (q : Ob), fzbH k X h i = some q → q.live = true → ∃ o, h i = some o ∧ o.live = true := by
      intro i q hk hq
      simp only [fzbH] at hk
      by_cases e2 : i = k
      · rw [if_pos e2] at hk; cases hk; simp [Ob.live] at hq
      · rw [if_neg e2] at hk
        obtain ⟨o, ho, rfl⟩ := Option.map_eq_some_iff.1 hk
        exact ⟨o, ho, by rw [Ob.fzb_live] at hq; exact hq⟩
    obtain ⟨o1, x1, x2⟩ := g i o g1 g2
    obtain ⟨o2, y1, y2⟩ := g j q g3 g4
    exact s.heap.inj i j b' T' U' o1 o2 x1 x2 y1 y2 g5 g6
  · rcases hF with hF | rfl
    · exact s.heap.apart k hk.1 hF
    · exact hk.2 rfl
  · rcases hk with hk | rfl
    · exact s.heap.lt k hk
    · exact s.heap.olt _ h2
/-- A variable that was made, handed on for reading. -/
theorem Fin.fzb {k : Nat} {X r r' : AV} (hob : h k = some (.box X)) (hn : X.noid = true) (hr : Is (AV.fzb k X r) r') (hn' : Is r'.noid true) (hb : BigIn h noHeap) (hk : k < 100000) : Fin h r noHeap r' := by
  have h1 : Fin h r (fzbH k X h) r' := by
    have := Weak.fzb (e := E1 r) hob hn
    have e : (fun t => AV.fzb k X (E1 r t)) = E1 r' := by
      funext t
      unfold E1
      split
      · exact hr
      · rfl
    rw [e] at this
    exact this
  refine h1.trans (Fin.drop hn' fun id hid h0 => ?_)
  simp only [fzbH]
  rw [if_neg (by omega), hb id hid h0]; rfl
attribute [simp] AV.fzb AV.fzbs
end Go.Proofs.YtngeckkebejhiaaDoor.Asl
