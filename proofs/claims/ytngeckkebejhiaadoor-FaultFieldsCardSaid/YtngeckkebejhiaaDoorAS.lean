/- Functions, for use: what is handed back, and what is left. -/
import Derived.Test.YtngeckkebejhiaaDoorAQ
namespace Go.Proofs.YtngeckkebejhiaaDoor.Asl
open Go Go.RowKit
set_option linter.unusedVariables false
set_option linter.unusedSimpArgs false
variable {P : Program} {nt : Nat} {C : Cx} {σ : St} {Q : Exit → St → Prop} {e : Nat → AV} {h h' : Hp}

/-- All that came in is still there. -/
def BigIn (h g : Hp) : Prop := ∀ id, 100000 ≤ id → g id = none → h id = none
@[simp] theorem bigIn_no {g : Hp} : BigIn noHeap g := fun _ _ _ => rfl
theorem bigIn_set {h g : Hp} {u : Nat} {o : Ob} (hu : u < 100000 ∨ g u ≠ none) : BigIn (setH h u o) g ↔ BigIn h g := by
  have key : ∀ id, 100000 ≤ id → g id = none → setH h u o id = h id := fun id h1 h2 => by
    simp only [setH]
    rw [if_neg]
    rintro rfl
    rcases hu with hu | hu
    · omega
    · exact hu h2
  exact ⟨fun hh id h1 h2 => by rw [← key id h1 h2]; exact hh id h1 h2, fun hh id h1 h2 => by rw [key id h1 h2]; exact hh id h1 h2⟩
@[simp] theorem bigIn_small {h g : Hp} {u : Nat} {o : Ob} (hu : u < 100000) : BigIn (setH h u o) g ↔ BigIn h g := bigIn_set (.inl hu)
@[simp] theorem bigIn_in {h g : Hp} {u : Nat} {o : Ob} (hu : ¬ g u = none) : BigIn (setH h u o) g ↔ BigIn h g := bigIn_set (.inr hu)
/-- One value, as a state. -/
def E1 (r : AV) : Nat → AV := fun t => if t = 0 then r else .raw undef
def Fin (h : Hp) (r : AV) (h' : Hp) (r' : AV) : Prop := Weak ⟨E1 r, h⟩ ⟨E1 r', h'⟩
theorem Fin.refl (h : Hp) (r : AV) : Fin h r h r := Weak.refl _
theorem Fin.use {r r' : AV} (hf : Fin h r h' r') {C : Cx} {v : Value} (hh : HOk C h) (hr : RV C r v) : ∃ C2, C2.W = C.W ∧ Ext C C2 ∧ HOk C2 h' ∧ RV C2 r' v := by
  obtain ⟨C2, h1, h2, h3⟩ := hf 1 C { tmps := #[v], defers := [] } ⟨rfl, rfl, fun t => by
    show RV C (E1 r t) _
    unfold E1
    split
    · rename_i h; subst h; exact hr
    · rename_i h
      have : (#[v] : Array Value).getD t undef = undef := by
        rw [Array.getD_eq_getD_getElem?, Array.getElem?_eq_none (by simp; omega)]; rfl
      rw [this]; exact .raw _, hh⟩
  exact ⟨C2, h1, h2, h3.heap, by simpa [E1] using h3.env 0⟩
theorem Fin.drop {r : AV} (hn : Is r.noid true) (hb : BigIn h noHeap) : Fin h r noHeap r := by
  refine Weak.sub (fun id ob hob => by cases hob) hb fun t => .inr ⟨rfl, ?_⟩
  unfold E1
  split
  · exact noid_within.1 r hn
  · rfl
theorem Fin.frz {g : Hp} {r r' : AV} (xs : List AV) (hg : Is (frzA h (AV.rowsOfs xs)) g) (hr : Is (r.deep g) r') (hn : Is r'.noid true) (hb : BigIn g noHeap) : Fin h r noHeap r' := by
  have h1 : Fin h r (deepH g) r' := by
    have := Weak.frz (e := E1 r) (h := h) xs
    rw [hg] at this
    have e : (fun t => (E1 r t).deep g) = E1 r' := by
      funext t
      unfold E1
      split
      · exact hr
      · rfl
    rw [e] at this
    exact this
  exact Weak.trans h1 (Fin.drop hn fun id hid h0 => by simp only [deepH, hb id hid h0]; rfl)
theorem Fin.frzR {g : Hp} {r r' : AV} (hg : Is (frzA h (AV.rowsOf r)) g) (hr : Is (r.deep g) r') (hn : Is r'.noid true) (hb : BigIn g noHeap) : Fin h r noHeap r' :=
  Fin.frz [r] (by simpa [AV.rowsOfs] using hg) hr hn hb
theorem Fin.sub {r : AV} (hsub : ∀ id ob, h' id = some ob → h id = some ob ∧ ob.within h' = true) (hbig : BigIn h h') (hr : Is (r.within h') true) : Fin h r h' r :=
  Weak.sub hsub hbig fun t => .inr ⟨rfl, by
    unfold E1
    split
    · exact hr
    · rfl⟩
theorem Fin.trans {h1 h2 h3 : Hp} {a b c : AV} (x : Fin h1 a h2 b) (y : Fin h2 b h3 c) : Fin h1 a h3 c := Weak.trans x y
/-- A function's contract. -/
theorem calls_go {f : FuncId} {fn : Func} {c : Code} {xs : List AV} {rs : List ResultVar} {r : AV} (hf : P.funcs[f]? = some fn) (hb : fn.body = some c) (hnt : fn.ntmps = nt) (hrs : fn.results.toList = rs) (hxs : xs.length ≤ nt) (hbig : ∀ id, (h id).isSome = true → 100000 ≤ id)
    (hw : ∀ Q : Exit → St → Prop, (∀ σ ex ys r0, (ex = .normal ∨ ex = .ret) → IsO (resAV P σ.env σ.heap rs) ys → Is (outOf ys) r0 → Fin σ.heap r0 h' r → Q ex σ) → (∀ σ σ2 ex, Weak σ σ2 → Q ex σ2 → Q ex σ) → AWP P nt c Q ⟨envOf xs, h⟩) : CallD P f xs h r h' := by
  intro C vs hC hvs
  refine calls_of_wp hf hb ?_
  have hl := hvs.len
  have hs : Sat nt C ⟨envOf xs, h⟩ { tmps := vs.toArray ++ Array.replicate (fn.ntmps - vs.toArray.size) undef, defers := [] } := by
    refine ⟨rfl, by simp [hnt]; omega, fun t => ?_, hC⟩
    simp only [envOf, Array.getD_eq_getD_getElem?, List.getD_eq_getElem?_getD]
    by_cases ht : t < xs.length
    · obtain ⟨v, h1, h2⟩ := hvs.at (List.getElem?_eq_getElem ht)
      rw [Array.getElem?_append_left (by simp; omega), List.getElem?_toArray, h1, List.getElem?_eq_getElem ht]
      exact h2
    · rw [List.getElem?_eq_none (by omega)]
      rw [Array.getElem?_append_right (by simp; omega), Array.getElem?_replicate]
      split <;> exact .raw _
  have hw1 := hw (fun ex σ' => (ex = .normal ∨ ex = .ret) ∧ ∃ σ2 ys, Weak σ' σ2 ∧ resAV P σ2.env σ2.heap fn.results.toList = some ys ∧ Fin σ2.heap (outOf ys) h' r) (fun σ ex ys r0 h1 h2 h3 h4 => ⟨h1, σ, ys, Weak.refl _, by rw [hrs]; exact h2, by rw [h3]; exact h4⟩) (fun σ σ2 ex h1 ⟨h2, σ3, ys, h3, h4⟩ => ⟨h2, σ3, ys, h1.trans h3, h4⟩)
  refine wp_mono (hw1 C C _ (.refl C) hs) ?_
  rintro ex a' W' ⟨σ', C', rfl, ⟨he, σ2, ys, hwk, hres, hfin⟩, ex, sat⟩
  obtain ⟨C2, hW, ex2, sat2⟩ := hwk nt C' a' sat
  obtain ⟨v, hr, hv⟩ := results_run sat2 hres
  rw [hW] at hr
  obtain ⟨C3, hW3, ex3, hh3, hv3⟩ := hfin.use sat2.heap hv
  have exx := (ex.trans ex2).trans ex3
  have hkeep : ∀ id p, C.ι id = some p → C3.ι id = some p := fun id p hp => by
    refine exx.ι id p (hbig id ?_) hp
    cases hi : h id with
    | none => rw [hC.no id hi] at hp; cases hp
    | some _ => rfl
  rcases he with rfl | rfl <;> exact ⟨sat.defers, v, hr, v, C3, rfl, hW3.trans hW, exx, hh3, hv3, hkeep⟩
/-- No row at all. -/
theorem Fin.nil {sz : Nat} (hb : BigIn h noHeap) : Fin h (.raw (.slice none 0 0)) noHeap (.sl sz []) := by
  refine (Fin.drop (h := h) (r := .raw (.slice none 0 0)) rfl hb).trans ?_
  intro nt C a s
  refine ⟨C, rfl, .refl C, s.defers, s.size, fun t => ?_, s.heap⟩
  have := s.env t
  show RV C (E1 (.sl sz []) t) _
  have h2 : RV C (E1 (.raw (.slice none 0 0)) t) (a.tmps.getD t undef) := this
  unfold E1 at h2 ⊢
  split
  · rename_i e
    rw [if_pos e] at h2
    rw [RV.raw_eq h2]; exact .sl0
  · rename_i e
    rw [if_neg e] at h2; exact h2
/-- A row that was made, handed on. -/
theorem Fin.row {k sz n : Nat} {ys : List AV} (hk : IsO (h k) (.arr sz ys)) (hn : Is (AV.noids ys) true) (hlt : k < 100000) (hb : BigIn h noHeap) : Fin h (.ow k sz 0 n) (setH noHeap 99999 (.arr sz ys)) (.ow 99999 sz 0 n) := by
  have h1 : Fin h (.ow k sz 0 n) (setH noHeap k (.arr sz ys)) (.ow k sz 0 n) := by
    refine Fin.sub (fun id ob hid => ?_) (fun id h1 h2 => ?_) ?_
    · simp only [setH_at, noHeap_at] at hid
      split at hid
      · rename_i e; subst e; cases hid
        refine ⟨hk, ?_⟩
        have := (noid_within.2 _ hn)
        have mono : (∀ x : AV, x.noid = true → x.within (setH noHeap id (.arr sz ys)) = true) ∧ ∀ l : List AV, AV.noids l = true → AV.withins (setH noHeap id (.arr sz ys)) l = true := by
          refine ⟨fun x => ?_, fun l => ?_⟩
          · refine AV.rec (motive_1 := fun x => x.noid = true → x.within (setH noHeap id (.arr sz ys)) = true) (motive_2 := fun l => AV.noids l = true → AV.withins (setH noHeap id (.arr sz ys)) l = true) ?_ ?_ ?_ ?_ ?_ ?_ ?_ ?_ ?_ ?_ ?_ ?_ ?_ x <;> intros <;> simp_all [AV.noid, AV.within, AV.noids, AV.withins]
          · refine AV.rec_1 (motive_1 := fun x => x.noid = true → x.within (setH noHeap id (.arr sz ys)) = true) (motive_2 := fun l => AV.noids l = true → AV.withins (setH noHeap id (.arr sz ys)) l = true) ?_ ?_ ?_ ?_ ?_ ?_ ?_ ?_ ?_ ?_ ?_ ?_ ?_ l <;> intros <;> simp_all [AV.noid, AV.within, AV.noids, AV.withins]
        exact mono.2 _ hn
      · cases hid
    · exact hb id h1 rfl
    · show (AV.within _ (.ow k sz 0 n)) = true
      simp [AV.within, setH]
  refine h1.trans ?_
  have h2 := Weak.ren (e := E1 (.ow k sz 0 n)) (h := setH noHeap k (.arr sz ys)) (sw_sw k 99999) (sw_sw k 99999) (fun i hi => by unfold sw; rw [if_neg (by omega), if_neg (by omega)])
  rw [renH_set, renH_no] at h2
  have e1 : (fun t => (E1 (.ow k sz 0 n) t).ren (sw k 99999)) = E1 (.ow 99999 sz 0 n) := by
    funext t
    unfold E1
    split
    · simp [AV.ren, sw]
    · rfl
  have e2 : (Ob.arr sz ys).ren (sw k 99999) = .arr sz ys := by simp [Ob.ren, noid_ren.2 _ hn]
  rw [e1, e2] at h2
  simp only [sw, if_true] at h2
  exact h2
/-- What a function hands back, told with less. -/
theorem CallD.fin {f : FuncId} {xs : List AV} {r r' : AV} {h0 h1 h2 : Hp} (hbig : ∀ id, (h0 id).isSome = true → 100000 ≤ id) (hc : CallD P f xs h0 r h1) (hf : Fin h1 r h2 r') : CallD P f xs h0 r' h2 := by
  intro C vs hC hvs
  refine Calls.mono (hc C vs hC hvs) ?_
  rintro en W' ⟨v, C', rfl, rfl, ex, hok, hrv, hk⟩
  obtain ⟨C2, e1, e2, e3, e4⟩ := hf.use hok hrv
  refine ⟨v, C2, rfl, e1, ex.trans e2, e3, e4, fun id p hp => e2.ι id p (hbig id ?_) (hk id p hp)⟩
  cases hi : h0 id with
  | none => rw [hC.no id hi] at hp; cases hp
  | some _ => rfl
/-- A row that was made, told by its content. -/
theorem CallD.told {f : FuncId} {xs : List AV} {sz n : Nat} {ys : List AV} (hc : CallD P f xs noHeap (.ow 99999 sz 0 n) (setH noHeap 99999 (.arr sz ys))) (hy : AV.noids ys = true) (hn : n ≤ ys.length) : CallD P f xs noHeap (.sl sz (ys.take n)) noHeap := by
  have hde : AV.deeps (setH noHeap 99999 (.arr sz ys)) ys = ys := by
    have : (∀ x : AV, x.noid = true → ∀ g, x.deep g = x) ∧ ∀ l : List AV, AV.noids l = true → ∀ g, AV.deeps g l = l := by
      refine ⟨fun x => ?_, fun l => ?_⟩
      · refine AV.rec (motive_1 := fun x => x.noid = true → ∀ g, x.deep g = x) (motive_2 := fun l => AV.noids l = true → ∀ g, AV.deeps g l = l) ?_ ?_ ?_ ?_ ?_ ?_ ?_ ?_ ?_ ?_ ?_ ?_ ?_ x <;> intros <;> simp_all [AV.noid, AV.deep, AV.noids, AV.deeps]
      · refine AV.rec_1 (motive_1 := fun x => x.noid = true → ∀ g, x.deep g = x) (motive_2 := fun l => AV.noids l = true → ∀ g, AV.deeps g l = l) ?_ ?_ ?_ ?_ ?_ ?_ ?_ ?_ ?_ ?_ ?_ ?_ ?_ l <;> intros <;> simp_all [AV.noid, AV.deep, AV.noids, AV.deeps]
    exact this.2 _ hy _
  have hro : AV.rowsOfs ys = [] := by
    have : (∀ x : AV, x.noid = true → x.rowsOf = []) ∧ ∀ l : List AV, AV.noids l = true → AV.rowsOfs l = [] := by
      refine ⟨fun x => ?_, fun l => ?_⟩
      · refine AV.rec (motive_1 := fun x => x.noid = true → x.rowsOf = []) (motive_2 := fun l => AV.noids l = true → AV.rowsOfs l = []) ?_ ?_ ?_ ?_ ?_ ?_ ?_ ?_ ?_ ?_ ?_ ?_ ?_ x <;> intros <;> simp_all [AV.noid, AV.rowsOf, AV.noids, AV.rowsOfs]
      · refine AV.rec_1 (motive_1 := fun x => x.noid = true → x.rowsOf = []) (motive_2 := fun l => AV.noids l = true → AV.rowsOfs l = []) ?_ ?_ ?_ ?_ ?_ ?_ ?_ ?_ ?_ ?_ ?_ ?_ ?_ l <;> intros <;> simp_all [AV.noid, AV.rowsOf, AV.noids, AV.rowsOfs]
    exact this.2 _ hy
  have hy' : AV.noids (ys.take n) = true := AV.noids_iff.2 fun x hx => AV.noids_iff.1 hy x (List.mem_of_mem_take hx)
  refine hc.fin (fun id h => by cases h) (Fin.frz (g := setH noHeap 99999 (.fz sz ys)) [.ow 99999 sz 0 n] ?_ ?_ (r' := .sl sz (ys.take n)) ?_ (by simp))
  · simp only [AV.rowsOfs, AV.rowsOf, List.append_nil, frzA, frzX, setH_at, if_true, hro, frzL, frzY, hde, hy]
    funext id
    simp only [setH]
    split <;> rfl
  · simp [Is, AV.deep, seeF, hn]
  · simp [Is, AV.noid]
/-- A call that is handed one variable. -/
theorem w_callP {ops : Array Oper} {l : List Oper} {K : (Nat → AV) → Hp → Prop} {ty' : TypeId} {pos : String} {af : Array Edge} {dd : Option Tmp} {args : Array Operand} {ats : Array TypeId} {x : Operand} {f : FuncId} {xs ys xs' : List AV} {X X' r r' : AV} {g : Hp} (p : Nat)
    (hp : Is (plainCall P ⟨.value x, args, ats⟩) false) (ha : IsO (argsOf (evE e) x args) (f, xs)) (hf : Is (isFn P f) true) (hfr : Is (frzA h (AV.rowsOfs xs)) g) (hys : Is (AV.deeps g xs) ys) (hX : IsO (g p) (.box X)) (hn : Is X.noid true) (hxs : Is (AV.rens (sw 100000 p) ys) xs') (hw : Is (AV.withins (setH noHeap p (.box X)) ys) true)
    (hcall : CallD P f xs' (setH noHeap 100000 (.box X)) r' (setH noHeap 100000 (.box X'))) (hn' : Is X'.noid true) (hr' : Is (r'.ren (sw 100000 p)) r) (htg : Is (xs.any (fun y => decide (y.tagP = none)) || xs.any (fun y => decide (y.tagP = some (some p)))) true) (hr : RunK P ops l (putE e dd r) (setH g p (.box X')) K) : RunK P ops (⟨dd, .call ⟨.value x, args, ats⟩, ty', pos, af, none⟩ :: l) e h K := by
  have hc := hcall.sw 100000 p
  rw [← hxs, AV.rens_rens (sw_sw _ _)] at hc
  rw [hr'] at hc
  have hsp : sw 100000 p 100000 = p := by simp [sw]
  have e1 : ∀ Y : AV, Y.noid = true → renH (sw 100000 p) (sw 100000 p) (setH noHeap 100000 (.box Y)) = setH noHeap p (.box Y) := by
    intro Y hY
    rw [renH_set, renH_no, hsp]
    show setH noHeap p (.box (Y.ren _)) = _
    rw [noid_ren.1 _ hY]
  rw [e1 X hn, e1 X' hn'] at hc
  have hwX : X.within (setH noHeap p (.box X)) = true := by
    have : (∀ x : AV, x.noid = true → x.within (setH noHeap p (.box X)) = true) := by
      intro x
      refine AV.rec (motive_1 := fun x => x.noid = true → x.within (setH noHeap p (.box X)) = true) (motive_2 := fun l => AV.noids l = true → AV.withins (setH noHeap p (.box X)) l = true) ?_ ?_ ?_ ?_ ?_ ?_ ?_ ?_ ?_ ?_ ?_ ?_ ?_ x <;> intros <;> simp_all [AV.noid, AV.within, AV.noids, AV.withins]
    exact this X hn
  refine w_callS (hs := setH noHeap p (.box X)) (hs' := setH noHeap p (.box X')) hp ha hf hfr hys ?_ hw hc ?_ ?_ ?_ hr
  · intro id ob hid
    simp only [setH_at, noHeap_at] at hid
    split at hid
    · rename_i hi; subst hi; cases hid
      exact ⟨hX, hwX⟩
    · cases hid
  · intro id hid
    simp only [setH_at, noHeap_at] at hid ⊢
    split at hid
    · rename_i hi; subst hi; exact .inl (by simp)
    · cases hid
  · funext id
    simp only [backH, setH_at, noHeap_at]
    by_cases hi : id = p <;> simp [hi]
  · intro ht
    unfold Is at htg
    refine ⟨fun id hi => ?_, fun id hi => .inl ?_⟩
    · simp only [setH_at, noHeap_at] at hi
      split at hi
      · rename_i e; subst e
        rw [Bool.or_eq_true] at htg
        rcases htg with htg | htg
        · obtain ⟨x, hx, h2⟩ := List.any_eq_true.1 htg
          exact absurd (of_decide_eq_true h2) (ht x hx)
        · obtain ⟨x, hx, h2⟩ := List.any_eq_true.1 htg
          exact ⟨x, hx, of_decide_eq_true h2⟩
      · cases hi
    · simp only [setH_at, noHeap_at] at hi ⊢
      split at hi
      · rename_i e; rw [if_pos e]; rfl
      · cases hi
@[simp] theorem size_mk (a : Array UInt8) : (ByteArray.mk a).size = a.size := rfl
@[simp] theorem AV.tagP_ptr {p o : Nat} : (AV.ptr p o).tagP = if p < 90000 ∨ p = 100000 then some (some p) else none := rfl
@[simp] theorem AV.tagP_raw {v : Value} : (AV.raw v).tagP = some none := rfl
@[simp] theorem AV.tagP_sl {sz : Nat} {l : List AV} : (AV.sl sz l).tagP = some none := rfl
@[simp] theorem AV.tagP_fp {x : AV} : (AV.fp x).tagP = some none := rfl
@[simp] theorem AV.tagP_agg {l : List AV} : (AV.agg l).tagP = if AV.noids l = true then some none else none := rfl
@[simp] theorem AV.tagP_ifc {t : TypeId} {x : AV} : (AV.ifc t x).tagP = if x.noid = true then some none else none := rfl
@[simp] theorem AV.tagP_ow {id s o n : Nat} : (AV.ow id s o n).tagP = none := rfl
@[simp] theorem AV.tagP_ep {id s i o : Nat} : (AV.ep id s i o).tagP = none := rfl
@[simp] theorem AV.tagP_tup {l : List AV} : (AV.tup l).tagP = none := rfl
@[simp] theorem AV.tagP_fn {f : Fn} {l m : List AV} : (AV.fn f l m).tagP = none := rfl
@[simp] theorem AV.tagP_any : AV.any.tagP = none := rfl
attribute [simp] plainCall argsOf AV.within AV.withins Ob.within
attribute [simp] frzA frzX frzY AV.rowsOf AV.rowsOfs resAV outOf frzL frz1 seeF AV.noid AV.noids AV.deep AV.deeps
end Go.Proofs.YtngeckkebejhiaaDoor.Asl
