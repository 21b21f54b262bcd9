/- Words for walking. -/
import Derived.Test.YtngeckkebejhiaaDoorAM
namespace Go.Proofs.YtngeckkebejhiaaDoor.Asl
open Go Go.RowKit
set_option linter.unusedVariables false
set_option linter.unusedSimpArgs false
variable {P : Program} {nt : Nat} {σ : St} {Q : Exit → St → Prop} {e : Nat → AV} {h : Hp} {K : (Nat → AV) → Hp → Prop} {ops : Array Oper} {o : Oper} {l : List Oper}

theorem awp_regK {id : Nat} {ops : Array Oper} {draw : Bool} (depth : Nat) (hm : P.follows .mixedOrders = true) (hok : okRegion (sys P) nt ops depth = true)
    (hh : ∀ K : (Nat → AV) → Hp → Prop, (∀ e h, Q .normal ⟨e, h⟩ → K e h) → RunK P ops ops.toList e h K) : AWP P nt (.region id ops draw) Q ⟨e, h⟩ :=
  awp_reg depth hm hok (hh _ fun _ _ x => x)
theorem awp_condB {c : Operand} {x y : Code} {b : Bool} (hc : evE e c = .raw (.bool b)) (ht : b = true → AWP P nt x Q ⟨e, h⟩) (hf : b = false → AWP P nt y Q ⟨e, h⟩) : AWP P nt (.cond c x y) Q ⟨e, h⟩ :=
  awp_cond b (by rw [← evE_eq]; exact hc) ht hf
theorem then_n {K : St → Prop} (hh : K σ) : Then K Q .normal σ := hh
theorem then_e {K : St → Prop} {id : Nat} (hh : Q (.exit id) σ) : Then K Q (.exit id) σ := hh
theorem then_r {K : St → Prop} (hh : Q .ret σ) : Then K Q .ret σ := hh
theorem in_n {id : Nat} (hh : Q .normal σ) : InBlock id Q .normal σ := hh
theorem in_r {id : Nat} (hh : Q .ret σ) : InBlock id Q .ret σ := hh
theorem in_e {id : Nat} (hh : Q .normal σ) : InBlock id Q (.exit id) σ := by simp only [InBlock, if_true]; exact hh
theorem in_ne {id id' : Nat} (hne : id' ≠ id) (hh : Q (.exit id') σ) : InBlock id Q (.exit id') σ := by simp only [InBlock, if_neg hne]; exact hh
theorem run_n (hh : K e h) : RunK P ops [] e h K := hh
theorem run_c (hg : o.guard = none) (hh : ∃ r h1, D P (evE e) o h r h1 ∧ RunK P ops l (putE e o.dst r) h1 K) : RunK P ops (o :: l) e h K := by
  obtain ⟨r, h1, hd, hr⟩ := hh
  exact ⟨r, h1, by unfold DG; rw [hg]; exact hd, hr⟩
theorem run_gT {j : Nat} {w : Bool} {t : Tmp} (hg : o.guard = some (j, w)) (ht : (ops[j]?).bind (·.dst) = some t) (he : e t = .raw (.bool w)) (hh : ∃ r h1, D P (evE e) o h r h1 ∧ RunK P ops l (putE e o.dst r) h1 K) : RunK P ops (o :: l) e h K := by
  obtain ⟨r, h1, hd, hr⟩ := hh
  exact ⟨r, h1, by unfold DG; rw [hg]; exact ⟨t, _, ht, he, .inl ⟨rfl, hd⟩⟩, hr⟩
theorem run_gF {j : Nat} {w : Bool} {t : Tmp} {v : Value} (hg : o.guard = some (j, w)) (ht : (ops[j]?).bind (·.dst) = some t) (he : e t = .raw v) (hv : v ≠ .bool w) (hh : RunK P ops l (putE e o.dst (.raw undef)) h K) : RunK P ops (o :: l) e h K :=
  ⟨_, _, by unfold DG; rw [hg]; exact ⟨t, _, ht, he, .inr ⟨hv, rfl, rfl⟩⟩, hh⟩
theorem run_gB {j : Nat} {w : Bool} {t : Tmp} {b : Bool} (hg : o.guard = some (j, w)) (ht : (ops[j]?).bind (·.dst) = some t) (he : e t = .raw (.bool b)) (hT : b = true → RunK P ops (o :: l) (putE e (some t) (.raw (.bool true))) h K) (hF : b = false → RunK P ops (o :: l) (putE e (some t) (.raw (.bool false))) h K) : RunK P ops (o :: l) e h K := by
  have : ∀ v, e t = v → putE e (some t) v = e := by
    intro v hv
    funext u
    simp only [putE, setE]
    split
    · rename_i hu; rw [hu, hv]
    · rfl
  cases b with
  | true => have := hT rfl; rwa [‹∀ v, e t = v → putE e (some t) v = e› _ he] at this
  | false => have := hF rfl; rwa [‹∀ v, e t = v → putE e (some t) v = e› _ he] at this
theorem putE_at {d u : Nat} {v : AV} : putE e (some d) v u = if u = d then v else e u := rfl
theorem putE_none {v : AV} : putE e none v = e := rfl
theorem evE_tmp {t : Tmp} : evE e (.tmp t) = e t := rfl
theorem evE_const {v : Value} : evE e (.const v) = .raw v := rfl
theorem evE_func {f : FuncId} : evE e (.func f) = .raw (.func (.func f) #[] #[]) := rfl
theorem setH_at {d u : Nat} {v : Ob} : setH h d v u = if u = d then some v else h u := rfl
theorem noHeap_at {u : Nat} : noHeap u = none := rfl
theorem ite_raw {c : Prop} [Decidable c] {x y : Value} : (if c then AV.raw x else AV.raw y) = AV.raw (if c then x else y) := by split <;> rfl
theorem ite_bool {c : Prop} [Decidable c] {x y : Bool} : (if c then Value.bool x else Value.bool y) = Value.bool (if c then x else y) := by split <;> rfl
theorem envOf_cons {x : AV} {xs : List AV} {t : Nat} : envOf (x :: xs) t = if t = 0 then x else envOf xs (t - 1) := by
  cases t <;> simp [envOf]
theorem envOf_nil {t : Nat} : envOf [] t = .raw undef := by simp [envOf]
theorem calls_fin {f : FuncId} {fn : Func} {c : Code} {xs : List AV} {h h' : Hp} {r : AV} (hf : P.funcs[f]? = some fn) (hb : fn.body = some c) (hnt : fn.ntmps = nt) (hxs : xs.length ≤ nt) (hbig : ∀ id, (h id).isSome = true → 100000 ≤ id)
    (hw : ∀ Q : Exit → St → Prop, (∀ e σ, (e = .normal ∨ e = .ret) → (∃ σ2 ys, Weak σ σ2 ∧ resAV P σ2.env σ2.heap fn.results.toList = some ys ∧ outOf ys = r ∧ σ2.heap = h') → Q e σ) → AWP P nt c Q ⟨envOf xs, h⟩) : CallD P f xs h r h' :=
  calls_of_awp hf hb hnt hxs hbig (hw _ fun _ _ h1 h2 => ⟨h1, h2⟩)
end Go.Proofs.YtngeckkebejhiaaDoor.Asl
