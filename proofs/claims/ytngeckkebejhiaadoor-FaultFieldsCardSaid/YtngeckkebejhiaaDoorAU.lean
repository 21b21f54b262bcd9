/- Loops. -/
import Derived.Test.YtngeckkebejhiaaDoorAT
namespace Go.Proofs.YtngeckkebejhiaaDoor.Asl
open Go Go.RowKit
set_option linter.unusedVariables false
set_option linter.unusedSimpArgs false
variable {P : Program} {nt : Nat} {C : Cx} {σ : St} {Q : Exit → St → Prop} {e : Nat → AV} {h h' : Hp}
@[simp] theorem setL_u8s' {x : Int} (l : List Int) (i : Nat) : AV.setL 1 (.raw (.int .u8 x)) (u8s l) i = if i < l.length then some (u8s (l.set i x)) else none := by
  by_cases hi : i < l.length
  · rw [if_pos hi, setL_u8s l i hi]
  · rw [if_neg hi]
    induction l generalizing i with
    | nil => simp [u8s]
    | cons y l ih =>
      cases i with
      | zero => simp at hi
      | succ i =>
        show AV.setL 1 _ (AV.raw (.int .u8 y) :: u8s l) (i + 1) = _
        rw [AV.setL, if_neg (by simp [AV.size]), show i + 1 - (AV.raw (.int .u8 y)).size = i by simp [AV.size], ih i (by simpa using hi)]
        rfl
attribute [simp] getL_u8s
def hpL : List (Nat × Ob) → Hp
  | [], _ => none
  | (u, o) :: l, i => if i = u then some o else hpL l i
@[simp] theorem hpL_nil {i : Nat} : hpL [] i = none := rfl
@[simp] theorem hpL_cons {u i : Nat} {o : Ob} {l : List (Nat × Ob)} : hpL ((u, o) :: l) i = if i = u then some o else hpL l i := rfl
theorem hpL_mem : ∀ {l : List (Nat × Ob)} {i : Nat} {o : Ob}, hpL l i = some o → (i, o) ∈ l
  | (u, q) :: l, i, o, hh => by
    simp only [hpL] at hh
    split at hh
    · rename_i e; subst e; cases hh; simp
    · exact List.mem_cons_of_mem _ (hpL_mem hh)
@[simp] theorem bigIn_nil {g : Hp} : BigIn (hpL []) g := fun _ _ _ => rfl
theorem hpL_setH {u : Nat} {o : Ob} {l : List (Nat × Ob)} : hpL ((u, o) :: l) = setH (hpL l) u o := rfl
@[simp] theorem bigIn_small' {l : List (Nat × Ob)} {g : Hp} {u : Nat} {o : Ob} (hu : u < 100000) : BigIn (hpL ((u, o) :: l)) g ↔ BigIn (hpL l) g := bigIn_set (.inl hu)
@[simp] theorem bigIn_in' {l : List (Nat × Ob)} {g : Hp} {u : Nat} {o : Ob} (hu : ¬ g u = none) : BigIn (hpL ((u, o) :: l)) g ↔ BigIn (hpL l) g := bigIn_set (.inr hu)
@[simp] theorem renH_nil {a b : Nat} : renH (sw a b) (sw a b) (hpL []) = hpL [] := rfl
@[simp] theorem renH_cons {a b u : Nat} {o : Ob} {l : List (Nat × Ob)} : renH (sw a b) (sw a b) (hpL ((u, o) :: l)) = setH (renH (sw a b) (sw a b) (hpL l)) (sw a b u) (o.ren (sw a b)) := by rw [hpL_setH, renH_set]
theorem setH_hpL {l : List (Nat × Ob)} {u : Nat} {o : Ob} : setH (hpL l) u o = hpL ((u, o) :: l) := by
  funext i; rfl
theorem noHeap_hpL : noHeap = hpL [] := by funext i; rfl

theorem awp_inv {c : Code} {α : Type} (tmps : α → List (Nat × AV)) (heap : α → Hp) (ok : α → Prop) (dec : α → Nat) (a0 : α) (h0 : ok a0) (hl : Weak ⟨e, h⟩ ⟨envA (tmps a0), heap a0⟩)
    (round : ∀ a, ok a → AWP P nt c (Then (fun σ' => ∃ a', dec a' < dec a ∧ ok a' ∧ Weak σ' ⟨envA (tmps a'), heap a'⟩) Q) ⟨envA (tmps a), heap a⟩) : AWP P nt (.loop c) Q ⟨e, h⟩ := by
  refine awp_loop (fun m σ => ∃ a, dec a = m ∧ ok a ∧ Weak σ ⟨envA (tmps a), heap a⟩) (n := dec a0) ⟨a0, rfl, h0, hl⟩ ?_
  rintro n σ ⟨a, rfl, ha, hw⟩
  refine AWP.weak hw ((round a ha).mono ?_)
  intro ex σ' hq
  cases ex with
  | normal =>
    obtain ⟨a', h1, h2, h3⟩ := hq
    exact ⟨_, h1, a', rfl, h2, h3⟩
  | _ => exact hq
/-- Ways that meet again. -/
theorem awp_join {x y : Code} {Q' : Exit → St → Prop} (σ2 : St) (hy : AWP P nt y Q σ2) (hx : AWP P nt x (Then (fun σ' => Weak σ' σ2) Q') σ) : AWP P nt x (Then (fun σ' => AWP P nt y Q σ') Q') σ :=
  hx.mono fun ex σ' h => by
    cases ex with
    | normal => exact AWP.weak h hy
    | _ => exact h
theorem weak_env {l : List (Nat × AV)} (hl : ∀ p ∈ l, e p.1 = p.2) (hh : h = h') : Weak ⟨e, h⟩ ⟨envA l, h'⟩ := Weak.env (σ := ⟨e, h⟩) (σ2 := ⟨envA l, h'⟩) (envA_weak hl) hh.symm
/-- Fewer objects. -/
theorem weak_sub {l : List (Nat × AV)} {m : List (Nat × Ob)} (hm : ∀ p ∈ m, h p.1 = some p.2 ∧ p.2.within (hpL m) = true) (hb : BigIn h (hpL m)) (hl : ∀ p ∈ l, e p.1 = p.2 ∧ p.2.within (hpL m) = true) : Weak ⟨e, h⟩ ⟨envA l, hpL m⟩ := by
  refine Weak.sub (fun id ob hid => hm _ (hpL_mem hid)) hb fun t => ?_
  rcases envA_weak (l := l) (fun p hp => (hl p hp).1) t with h1 | h1
  · exact .inl h1
  · have : ∀ {l : List (Nat × AV)}, (∀ p ∈ l, e p.1 = p.2 ∧ p.2.within (hpL m) = true) → envA l t = .any ∨ (envA l t).within (hpL m) = true := by
      intro l
      induction l with
      | nil => intro _; exact .inl rfl
      | cons p l ih =>
        intro hp
        obtain ⟨u, v⟩ := p
        simp only [envA]
        split
        · exact .inr (hp (u, v) (by simp)).2
        · exact ih fun q hq => hp q (by simp [hq])
    rcases this hl with h2 | h2
    · exact .inl h2
    · exact .inr ⟨h1, by rw [← h1]; exact h2⟩
/-- A new name for one object, and fewer objects. -/
theorem weak_ren {l : List (Nat × AV)} {m : List (Nat × Ob)} (a b : Nat) (ha : a < 100000) (hb' : b < 100000) (hm : ∀ p ∈ m, renH (sw a b) (sw a b) h p.1 = some p.2 ∧ p.2.within (hpL m) = true) (hb : BigIn (renH (sw a b) (sw a b) h) (hpL m)) (hl : ∀ p ∈ l, (e p.1).ren (sw a b) = p.2 ∧ p.2.within (hpL m) = true) : Weak ⟨e, h⟩ ⟨envA l, hpL m⟩ :=
  (Weak.ren (sw_sw a b) (sw_sw a b) (fun i hi => by unfold sw; rw [if_neg (by omega), if_neg (by omega)])).trans (weak_sub hm hb hl)
end Go.Proofs.YtngeckkebejhiaaDoor.Asl
