/- Rows that are nil till something is appended; calls that make a variable. -/
import Derived.Test.YtngeckkebejhiaaDoorAW
namespace Go.Proofs.YtngeckkebejhiaaDoor.Asl
open Go Go.RowKit
set_option linter.unusedVariables false
set_option linter.unusedSimpArgs false
variable {P : Program} {nt : Nat} {C : Cx} {σ : St} {Q : Exit → St → Prop} {e : Nat → AV} {h h' : Hp} {K : (Nat → AV) → Hp → Prop} {ops : Array Oper} {l : List Oper} {ty' : TypeId} {pos : String} {af : Array Edge} {dd : Option Tmp}
def orow (id sz : Nat) (l : List AV) : AV := if l = [] then .raw (.slice none 0 0) else .ow id sz 0 l.length
def ohp (id sz : Nat) (l : List AV) (h : Hp) : Hp := fun k => if k = id then (if l = [] then none else some (.arr sz l)) else h k
def killH (id : Nat) (l : List AV) (h : Hp) : Hp := fun k => if k = id then (if l = [] then h k else some .dead) else h k
@[simp] theorem ohp_at {id sz k : Nat} {l : List AV} {h : Hp} : ohp id sz l h k = if k = id then (if l = [] then none else some (.arr sz l)) else h k := rfl
@[simp] theorem killH_at {id k : Nat} {l : List AV} {h : Hp} : killH id l h k = if k = id then (if l = [] then h k else some .dead) else h k := rfl
@[simp] theorem orow_ne {id sz : Nat} {l : List AV} (hl : ¬ l = []) : orow id sz l = .ow id sz 0 l.length := if_neg hl
@[simp] theorem orow_nil {id sz : Nat} : orow id sz [] = .raw (.slice none 0 0) := rfl
theorem ohp_ne {id sz : Nat} {l : List AV} {m : List (Nat × Ob)} (hl : l ≠ []) : ohp id sz l (hpL m) = hpL ((id, .arr sz l) :: m) := by
  funext k; simp only [ohp, hpL]; by_cases hk : k = id
  · rw [if_pos hk, if_pos hk, if_neg hl]
  · rw [if_neg hk, if_neg hk]
theorem ohp_nil {id sz : Nat} {m : List (Nat × Ob)} (hm : hpL m id = none) : ohp id sz [] (hpL m) = hpL m := by
  funext k; simp only [ohp]; split
  · rename_i hk; rw [hk, hm]; rfl
  · rfl
@[simp] theorem rowOf_orow {id sz : Nat} {l : List AV} {h : Hp} (hi : ¬ l = [] → h id = some (.arr sz l)) : rowOf h sz (orow id sz l) = some l := by
  unfold orow
  split
  · rename_i hl; subst hl; rfl
  · rename_i hl; simp [rowOf, hi hl]
@[simp] theorem bigIn_ohp {id sz : Nat} {xs : List AV} {h g : Hp} (hu : id < 100000) : BigIn (ohp id sz xs h) g ↔ BigIn h g := by
  have key : ∀ k, 100000 ≤ k → ohp id sz xs h k = h k := fun k hk => by simp only [ohp]; rw [if_neg (by omega)]
  exact ⟨fun hh k h1 h2 => by rw [← key k h1]; exact hh k h1 h2, fun hh k h1 h2 => by rw [key k h1]; exact hh k h1 h2⟩
@[simp] theorem bigIn_killH {id : Nat} {xs : List AV} {h g : Hp} (hu : id < 100000) : BigIn (killH id xs h) g ↔ BigIn h g := by
  have key : ∀ k, 100000 ≤ k → killH id xs h k = h k := fun k hk => by simp only [killH]; rw [if_neg (by omega)]
  exact ⟨fun hh k h1 h2 => by rw [← key k h1]; exact hh k h1 h2, fun hh k h1 h2 => by rw [key k h1]; exact hh k h1 h2⟩
@[simp] theorem renH_at {a b i : Nat} {h : Hp} : renH (sw a b) (sw a b) h i = (h (sw a b i)).map (Ob.ren (sw a b)) := rfl
theorem w_appendX {x y : Operand} {t u el sz b q id : Nat} {xs ys : List AV} {Y : AV} {m : Nat} (ht : IsO (rowI P t) (el, sz, b)) (hx : Is (evE e x) (orow id sz xs)) (hi : ¬ xs = [] → h id = some (.arr sz xs)) (hY : Is (evE e y) Y) (hy : IsO (srcOf P h sz u Y) ys) (hq : Is (h q) none) (hne : ys ≠ [])
    (h1 : (xs.length + ys.length) * b ≤ 140737488355328) (h2 : xs.length + ys.length ≤ 140737488355328) (hm : Is (xs.length + ys.length) m) (hr : RunK P ops l (putE e (some q) (.ow q sz 0 m)) (setH (killH id xs h) q (.arr sz (xs ++ ys))) K) : RunK P ops (⟨some q, .call { callee := .builtin .append, args := #[x, y], argTypes := #[t, u] }, ty', pos, af, none⟩ :: l) e h K := by
  by_cases hxs : xs = []
  · subst hxs
    have e1 : killH id ([] : List AV) h = h := by funext k; simp only [killH]; split <;> rfl
    rw [e1] at hr
    refine w_append0 ht hx rfl hY hy hq hne (by simpa using h1) (by simpa using h2) ?_ hr
    simpa using hm
  · have e1 : killH id xs h = setH h id .dead := by funext k; simp only [killH, setH]; rw [if_neg hxs]
    rw [e1] at hr
    rw [orow_ne hxs] at hx
    exact w_append ht hx (hi hxs) hY hy hq (Nat.le_refl _) h1 h2 (by simp [Is]) hm hr
/-- A variable that was made, under another name. -/
theorem CallD.ownB {f : FuncId} {xs : List AV} {x : AV} (hn : AV.noids xs = true) (hy : x.noid = true) (q : Nat) (hc : CallD P f xs noHeap (.ptr 99999 0) (setH noHeap 99999 (.box x))) : CallD P f xs noHeap (.ptr q 0) (setH noHeap q (.box x)) := by
  have := hc.sw 99999 q
  rw [noid_ren.2 _ hn, renH_no, renH_set, renH_no] at this
  simp only [AV.ren, Ob.ren, noid_ren.1 _ hy, sw, if_true] at this
  exact this
/-- A call that hands back a variable that it made. -/
theorem w_callB {args : Array Operand} {ats : Array TypeId} {x : Operand} {f : FuncId} {xs ys : List AV} {g : Hp} {q : Nat} {X : AV} (hp : Is (plainCall P ⟨.value x, args, ats⟩) false) (ha : IsO (argsOf (evE e) x args) (f, xs)) (hf : Is (isFn P f) true) (hfr : Is (frzA h (AV.rowsOfs xs)) g) (hs : Is (AV.deeps g xs) ys) (hn : Is (AV.noids ys) true) (hq : Is (g q) none)
    (hcall : CallD P f ys noHeap (.ptr 99999 0) (setH noHeap 99999 (.box X))) (hz : Is X.noid true) (hr : RunK P ops l (putE e (some q) (.ptr q 0)) (setH g q (.box X)) K) : RunK P ops (⟨some q, .call ⟨.value x, args, ats⟩, ty', pos, af, none⟩ :: l) e h K :=
  w_callS (hs := noHeap) (hs' := setH noHeap q (.box X)) hp ha hf hfr hs (fun id ob h => by cases h) (noid_within.2 _ hn) (hcall.ownB hn hz q) (fun id hi => by
    by_cases e : id = q
    · subst e; exact .inr hq
    · simp [setH, e, noHeap] at hi) backH_new touch_new hr
/-- A variable that was made, handed on. -/
theorem Fin.box {k : Nat} {x : AV} (hk : IsO (h k) (.box x)) (hn : Is x.noid true) (hlt : k < 100000) (hb : BigIn h noHeap) : Fin h (.ptr k 0) (setH noHeap 99999 (.box x)) (.ptr 99999 0) := by
  have h1 : Fin h (.ptr k 0) (setH noHeap k (.box x)) (.ptr k 0) := by
    refine Fin.sub (fun id ob hid => ?_) (fun id h1 h2 => ?_) ?_
    · simp only [setH_at, noHeap_at] at hid
      split at hid
      · rename_i e; subst e; cases hid
        exact ⟨hk, (noid_withins _).1 _ hn⟩
      · cases hid
    · exact hb id h1 rfl
    · show (AV.within _ (.ptr k 0)) = true
      simp [AV.within, setH]
  refine h1.trans ?_
  have h2 := Weak.ren (e := E1 (.ptr k 0)) (h := setH noHeap k (.box x)) (sw_sw k 99999) (sw_sw k 99999) (fun i hi => by unfold sw; rw [if_neg (by omega), if_neg (by omega)])
  rw [renH_set, renH_no] at h2
  have e1 : (fun t => (E1 (.ptr k 0) t).ren (sw k 99999)) = E1 (.ptr 99999 0) := by
    funext t
    unfold E1
    split
    · simp [AV.ren, sw]
    · rfl
  have e2 : (Ob.box x).ren (sw k 99999) = .box x := by simp [Ob.ren, noid_ren.1 _ hn]
  rw [e1, e2] at h2
  simp only [sw, if_true] at h2
  exact h2
/-- What came in stays as it is told; all else is dropped. -/
theorem Fin.keep {X : AV} {r : AV} (hk : IsO (h 100000) (.box X)) (hX : Is X.noid true) (hr : Is r.noid true) (hb : BigIn h (setH noHeap 100000 (.box X))) : Fin h r (setH noHeap 100000 (.box X)) r := by
  refine Fin.sub (fun id ob hid => ?_) hb ((noid_withins _).1 _ hr)
  simp only [setH_at, noHeap_at] at hid
  split at hid
  · rename_i e; subst e; cases hid
    exact ⟨hk, (noid_withins _).1 _ hX⟩
  · cases hid
/-! A state that is told with less, among rows that may be nil. -/
def SubH (h g h' : Hp) : Prop := ∀ id ob, g id = some ob → h id = some ob ∧ ob.within h' = true
theorem sub_hpL {m : List (Nat × Ob)} (hm : ∀ p ∈ m, h p.1 = some p.2 ∧ p.2.within h' = true) : SubH h (hpL m) h' := fun id ob hid => hm _ (hpL_mem hid)
theorem sub_ohp {id sz : Nat} {xs : List AV} {g : Hp} (hx : ¬ xs = [] → h id = some (.arr sz xs)) (hn : AV.withins h' xs = true) (hs : SubH h g h') : SubH h (ohp id sz xs g) h' := fun k ob hk => by
  simp only [ohp] at hk
  split at hk
  · split at hk
    · cases hk
    · rename_i e1 e2; subst e1; cases hk
      exact ⟨hx e2, hn⟩
  · exact hs k ob hk
@[simp] theorem orow_within {id sz : Nat} {xs : List AV} (hi : ¬ xs = [] → (h id).isSome = true) : (orow id sz xs).within h = true := by
  unfold orow
  split
  · rfl
  · rename_i hx; exact hi hx
@[simp] theorem orow_noid_nil {id sz : Nat} : (orow id sz []).noid = true := rfl
@[simp] theorem orow_ren {id sz a b : Nat} {xs : List AV} : (orow id sz xs).ren (sw a b) = orow (sw a b id) sz xs := by
  unfold orow
  split <;> simp
@[simp] theorem bigIn_tgt {id sz : Nat} {xs : List AV} {h g : Hp} (hu : id < 100000) : BigIn h (ohp id sz xs g) ↔ BigIn h g := by
  have key : ∀ k, 100000 ≤ k → ohp id sz xs g k = g k := fun k hk => by simp only [ohp]; rw [if_neg (by omega)]
  exact ⟨fun hh k h1 h2 => hh k h1 (by rw [key k h1]; exact h2), fun hh k h1 h2 => hh k h1 (by rw [← key k h1]; exact h2)⟩
@[simp] theorem bigIn_renH {a b : Nat} {h g : Hp} (ha : a < 100000) (hb : b < 100000) : BigIn (renH (sw a b) (sw a b) h) g ↔ BigIn h g := by
  have key : ∀ k, 100000 ≤ k → (renH (sw a b) (sw a b) h k = none ↔ h k = none) := fun k hk => by
    simp only [renH, sw]
    rw [if_neg (by omega), if_neg (by omega), Option.map_eq_none_iff]
  exact ⟨fun hh k h1 h2 => (key k h1).1 (hh k h1 h2), fun hh k h1 h2 => (key k h1).2 (hh k h1 h2)⟩
theorem weak_o {l : List (Nat × AV)} (hs : SubH h h' h') (hb : BigIn h h') (hl : ∀ p ∈ l, e p.1 = p.2 ∧ p.2.within h' = true) : Weak ⟨e, h⟩ ⟨envA l, h'⟩ := by
  refine Weak.sub hs hb fun t => ?_
  rcases envA_weak (l := l) (fun p hp => (hl p hp).1) t with h1 | h1
  · exact .inl h1
  · have : ∀ {l : List (Nat × AV)}, (∀ p ∈ l, e p.1 = p.2 ∧ p.2.within h' = true) → envA l t = .any ∨ (envA l t).within h' = true := by
      intro l
      induction l with
      | nil => intro _; exact .inl rfl
      | cons p l ih =>
        intro hp
        obtain ⟨u, v⟩ := p
        simp only [envA]
        split
        · exact .inr (hp (u, v) (by simp)).2
        · exact ih fun q hq => hp q (by simp [hq])
    rcases this hl with h2 | h2
    · exact .inl h2
    · exact .inr ⟨h1, by rw [← h1]; exact h2⟩
theorem weak_or {l : List (Nat × AV)} (a b : Nat) (ha : a < 100000) (hb' : b < 100000) (hs : SubH (renH (sw a b) (sw a b) h) h' h') (hb : BigIn (renH (sw a b) (sw a b) h) h') (hl : ∀ p ∈ l, (e p.1).ren (sw a b) = p.2 ∧ p.2.within h' = true) : Weak ⟨e, h⟩ ⟨envA l, h'⟩ :=
  (Weak.ren (sw_sw a b) (sw_sw a b) (fun i hi => by unfold sw; rw [if_neg (by omega), if_neg (by omega)])).trans (weak_o hs hb hl)
theorem weak_or2 {l : List (Nat × AV)} (a b c d : Nat) (ha : a < 100000) (hb' : b < 100000) (hc : c < 100000) (hd : d < 100000) (hs : SubH (renH (sw c d) (sw c d) (renH (sw a b) (sw a b) h)) h' h') (hb : BigIn (renH (sw c d) (sw c d) (renH (sw a b) (sw a b) h)) h') (hl : ∀ p ∈ l, ((e p.1).ren (sw a b)).ren (sw c d) = p.2 ∧ p.2.within h' = true) : Weak ⟨e, h⟩ ⟨envA l, h'⟩ :=
  (Weak.ren (sw_sw a b) (sw_sw a b) (fun i hi => by unfold sw; rw [if_neg (by omega), if_neg (by omega)])).trans (weak_or c d hc hd hs hb hl)
attribute [simp] nums_eq AV.flat AV.flats
@[simp] theorem u8s_nil : u8s [] = [] := rfl
@[simp] theorem u8s_eq_nil {l : List Int} : u8s l = [] ↔ l = [] := by simp [u8s]
@[simp] theorem take_snoc2 {α : Type} (l : List α) (x y : α) : List.take (l.length + 2) (l ++ [x, y]) = l ++ [x, y] := List.take_of_length_le (by simp)
@[simp] theorem take_snocm {α β : Type} (l : List α) (f : α → β) (x : β) : List.take (l.length + 1) (List.map f l ++ [x]) = List.map f l ++ [x] := List.take_of_length_le (by simp)
@[simp] theorem take_snoc2m {α β : Type} (l : List α) (f : α → β) (x y : β) : List.take (l.length + 2) (List.map f l ++ [x, y]) = List.map f l ++ [x, y] := List.take_of_length_le (by simp)
@[simp] theorem strOf_nil : Asl.strOf [] = some [] := rfl
@[simp] theorem strOf_cons (n : Int) (l : List AV) : Asl.strOf (.raw (.int .u8 n) :: l) = (Asl.strOf l).map fun r => UInt8.ofNat n.toNat :: r := by
  simp only [Asl.strOf, byteOf]
  cases Asl.strOf l <;> rfl
theorem w_remU {t ty : TypeId} {x y : Operand} {k : IntKind} {X Y : Int} (hx : Is (evE e x) (.raw (.int k X))) (hy : Is (evE e y) (.raw (.int k Y))) (h0 : 0 ≤ X) (h1 : 0 < Y) (hr : RunK P ops l (putE e dd (.raw (.int k (X % Y)))) h K) : RunK P ops (⟨dd, .binOp .rem t x y ty, ty', pos, af, none⟩ :: l) e h K :=
  w_bin hx hy (by
    show binV .rem (.int k X) (.int k Y) = some (.int k (X % Y))
    simp [binV, Int.tmod_eq_emod_of_nonneg h0, Int.ne_of_gt h1]) hr
theorem w_quoU {t ty : TypeId} {x y : Operand} {k : IntKind} {X Y w : Int} (hx : Is (evE e x) (.raw (.int k X))) (hy : Is (evE e y) (.raw (.int k Y))) (h0 : 0 ≤ X) (h1 : 0 < Y) (hw : Is (k.wrap (X / Y)) w) (hr : RunK P ops l (putE e dd (.raw (.int k w))) h K) : RunK P ops (⟨dd, .binOp .quo t x y ty, ty', pos, af, none⟩ :: l) e h K :=
  w_bin hx hy (by
    show binV .quo (.int k X) (.int k Y) = some (.int k w)
    rw [← hw]
    simp [binV, Int.tdiv_eq_ediv_of_nonneg h0, Int.ne_of_gt h1]) hr
theorem w_gU {op : Op} {j : Nat} {w : Bool} {t : Tmp} (ht : (ops[j]?).bind (·.dst) = some t) (he : Is (e t) (.raw undef)) (hr : RunK P ops l (putE e dd (.raw undef)) h K) : RunK P ops (⟨dd, op, ty', pos, af, some (j, w)⟩ :: l) e h K :=
  run_gF rfl ht he (by simp [undef]) hr
@[simp] theorem ite_min (x y : Int) : (if y < x then y else x) = min x y := by split <;> omega
@[simp] theorem ite_max (x y : Int) : (if x < y then y else x) = max x y := by split <;> omega
theorem w_minC {args : Array Operand} {ats : Array TypeId} {X : AV} (hx : IsO (minV (args.toList.map (evE e))) X) (hr : RunK P ops l (putE e dd X) h K) : RunK P ops (⟨dd, .call ⟨.builtin .min, args, ats⟩, ty', pos, af, none⟩ :: l) e h K := w_min (c := ⟨.builtin .min, args, ats⟩) hx hr
theorem w_maxC {args : Array Operand} {ats : Array TypeId} {X : AV} (hx : IsO (maxV (args.toList.map (evE e))) X) (hr : RunK P ops l (putE e dd X) h K) : RunK P ops (⟨dd, .call ⟨.builtin .max, args, ats⟩, ty', pos, af, none⟩ :: l) e h K := w_max (c := ⟨.builtin .max, args, ats⟩) hx hr
@[simp] theorem toNat_add_nat (a i : Nat) : ((a : Int) + (i : Int)).toNat = a + i := by omega
theorem Fin.tupNil2 {h : Hp} {sz : Nat} {x : AV} {xs : List AV} : Fin h (.tup (x :: .raw (.slice none 0 0) :: xs)) h (.tup (x :: .sl sz [] :: xs)) := Fin.imp fun C v hv => by
  cases hv with
  | tup hv =>
    cases hv with
    | cons h0 h1 =>
      cases h1 with
      | cons h1 h2 =>
        rw [RV.raw_eq h1]
        exact .tup (.cons h0 (.cons .sl0 h2))
/-! Ways among a region's operations, by bits. -/
section
variable {P : Program} {nt : Nat} {Q : Exit → St → Prop} {e : Nat → AV} {h : Hp}
def direct (ops : Array Oper) (j : Nat) : Nat := match ops[j]? with
  | none => 0
  | some o => o.after.toList.foldr (fun e acc => bif Region.binds .any e then (1 <<< e.on) ||| acc else acc) 0
def closeM (ops : Array Oper) : Nat → Nat → Nat
  | 0, m => m
  | j + 1, m => closeM ops j (bif m.testBit j then m ||| direct ops j else m)
def okRegM (S : Sys P) (nt : Nat) (ops : Array Oper) : Bool :=
  ops.all (fun o => o.dst.all (· < nt) && (match o.op with | .select .. => false | _ => true)) &&
  (List.range ops.size).all fun i => match ops[i]? with
    | none => true
    | some x => x.after.all (fun e => !Region.binds .any e || decide (e.on < i)) &&
      (List.range i).all fun y => (closeM ops i (direct ops i)).testBit y || match ops[y]? with
        | none => true
        | some o => indep S ops o x
theorem anc_mono {ops : Array Oper} : ∀ (k i y : Nat), y ∈ anc ops k i → y ∈ anc ops (k + 1) i
  | 0, i, y, h => by simp [anc] at h
  | k + 1, i, y, h => by
    simp only [anc] at h ⊢
    cases ho : ops[i]? with
    | none => rw [ho] at h; simp at h
    | some o =>
      rw [ho] at h
      simp only [List.mem_flatMap] at h ⊢
      obtain ⟨j, hj, hy⟩ := h
      refine ⟨j, hj, ?_⟩
      rcases List.mem_cons.1 hy with rfl | hy
      · exact List.mem_cons_self
      · exact List.mem_cons_of_mem _ (by have := anc_mono k j y hy; simpa only [anc] using this)
theorem anc_up {ops : Array Oper} {k k' i y : Nat} (hk : k ≤ k') (h : y ∈ anc ops k i) : y ∈ anc ops k' i := by
  obtain ⟨d, rfl⟩ := Nat.le.dest hk
  induction d with
  | zero => exact h
  | succ d ih => exact anc_mono _ _ _ (ih (by omega))
theorem direct_bit {ops : Array Oper} {j z : Nat} (h : (direct ops j).testBit z = true) : ∃ o, ops[j]? = some o ∧ ∃ e ∈ o.after, Region.binds .any e = true ∧ e.on = z := by
  unfold direct at h
  cases ho : ops[j]? with
  | none => rw [ho] at h; simp at h
  | some o =>
    rw [ho] at h
    refine ⟨o, rfl, ?_⟩
    have : ∀ l : List Edge, (l.foldr (fun e acc => bif Region.binds .any e then (1 <<< e.on) ||| acc else acc) 0).testBit z = true → ∃ e ∈ l, Region.binds .any e = true ∧ e.on = z := by
      intro l
      induction l with
      | nil => intro h; simp at h
      | cons e l ih =>
        intro h
        rw [List.foldr_cons] at h
        cases hb : Region.binds .any e with
        | false =>
          rw [hb] at h
          obtain ⟨e', h1, h2⟩ := ih h
          exact ⟨e', List.mem_cons_of_mem _ h1, h2⟩
        | true =>
          rw [hb] at h
          simp only [cond_true, Nat.testBit_or, Bool.or_eq_true] at h
          rcases h with h | h
          · refine ⟨e, List.mem_cons_self, hb, ?_⟩
            rw [Nat.one_shiftLeft, Nat.testBit_two_pow] at h
            simpa using h
          · obtain ⟨e', h1, h2⟩ := ih h
            exact ⟨e', List.mem_cons_of_mem _ h1, h2⟩
    obtain ⟨e, h1, h2⟩ := this _ h
    exact ⟨e, Array.mem_toList_iff.1 h1, h2⟩
theorem anc_direct {ops : Array Oper} {k j z : Nat} (h : (direct ops j).testBit z = true) : z ∈ anc ops (k + 1) j := by
  obtain ⟨o, ho, e, he, hb, rfl⟩ := direct_bit h
  simp only [anc, ho, List.mem_flatMap]
  exact ⟨e.on, List.mem_filterMap.2 ⟨e, Array.mem_toList_iff.2 he, by simp [hb]⟩, List.mem_cons_self⟩
theorem anc_step {ops : Array Oper} {y z : Nat} (hz : (direct ops y).testBit z = true) : ∀ (k i : Nat), y ∈ anc ops k i → z ∈ anc ops (k + 1) i
  | 0, i, h => by simp [anc] at h
  | k + 1, i, h => by
    rw [anc] at h ⊢
    cases ho : ops[i]? with
    | none => rw [ho] at h; simp at h
    | some o =>
      rw [ho] at h
      simp only [List.mem_flatMap] at h ⊢
      obtain ⟨j, hj, hy⟩ := h
      refine ⟨j, hj, List.mem_cons_of_mem _ ?_⟩
      rcases List.mem_cons.1 hy with rfl | hy
      · exact anc_direct hz
      · exact anc_step hz k j hy
theorem closeM_anc {ops : Array Oper} {i : Nat} (hd : ∀ j o, ops[j]? = some o → ∀ e ∈ o.after, Region.binds .any e = true → e.on < j) : ∀ (n m : Nat), (∀ y, m.testBit y = true → y < i ∧ y ∈ anc ops (i - y) i) → ∀ y, (closeM ops n m).testBit y = true → y < i ∧ y ∈ anc ops (i - y) i
  | 0, m, hm, y, h => hm y h
  | n + 1, m, hm, y, h => by
    rw [closeM] at h
    refine closeM_anc hd n _ (fun z hz => ?_) y h
    cases hb : m.testBit n with
    | false => rw [hb] at hz; exact hm z hz
    | true =>
      rw [hb] at hz
      simp only [cond_true, Nat.testBit_or, Bool.or_eq_true] at hz
      rcases hz with hz | hz
      · exact hm z hz
      · obtain ⟨h1, h2⟩ := hm n hb
        obtain ⟨o, ho, e, he, hbe, hez⟩ := direct_bit hz
        have hlt := hd n o ho e he hbe
        exact ⟨by omega, anc_up (k := i - n + 1) (by omega) (anc_step hz _ _ h2)⟩
theorem okReg_of {S : Sys P} {ops : Array Oper} (h : okRegM S nt ops = true) : okRegion S nt ops ops.size = true := by
  unfold okRegM at h
  unfold okRegion
  rw [Bool.and_eq_true] at h ⊢
  refine ⟨h.1, ?_⟩
  have h2 := h.2
  rw [List.all_eq_true] at h2 ⊢
  have hd : ∀ j o, ops[j]? = some o → ∀ e ∈ o.after, Region.binds .any e = true → e.on < j := by
    intro j o ho e he hb
    have hj := (Array.getElem?_eq_some_iff.1 ho).1
    have := h2 j (List.mem_range.2 hj)
    rw [ho] at this
    simp only [Bool.and_eq_true] at this
    have := Array.all_eq_true_iff_forall_mem.1 this.1 e he
    rw [hb] at this
    simpa using this
  intro i hi
  have hil := List.mem_range.1 hi
  have h3 := h2 i hi
  cases ho : ops[i]? with
  | none => rfl
  | some x =>
    rw [ho] at h3
    simp only [Bool.and_eq_true] at h3 ⊢
    refine ⟨h3.1, ?_⟩
    have h4 := h3.2
    rw [List.all_eq_true] at h4 ⊢
    intro y hy
    have h5 := h4 y hy
    rw [Bool.or_eq_true] at h5 ⊢
    rcases h5 with h5 | h5
    · left
      obtain ⟨_, h6⟩ := closeM_anc hd i _ (fun z hz => by
        obtain ⟨o, ho', e, he, hbe, hez⟩ := direct_bit hz
        have := hd i o ho' e he hbe
        exact ⟨by omega, anc_up (k := 1) (by omega) (anc_direct (k := 0) hz)⟩) y h5
      rw [List.contains_iff_mem]
      exact anc_up (by omega) h6
    · exact .inr h5
theorem awp_regM {id : Nat} {ls : List Oper} (hm : P.follows .mixedOrders = true) (hok : okRegM (sys P) nt ls.toArray = true)
    (hh : ∀ K : (Nat → AV) → Hp → Prop, (∀ e h, Q .normal ⟨e, h⟩ → K e h) → RunK P ls.toArray ls e h K) : AWP P nt (.region id ls.toArray false) Q ⟨e, h⟩ :=
  awp_regL _ hm (okReg_of hok) hh
theorem awp_regAM {id : Nat} {ls : List Oper} (an : List (Tmp × Option Nat)) (hm : P.follows .mixedOrders = true) (hok : okRegM (sysA P (annL an)) nt ls.toArray = true) (honce : once ls.toArray = true)
    (hh : ∀ K : (Nat → AV) → Hp → Prop, (∀ e h, (∀ p ∈ an, (e p.1).top = p.2) → Q .normal ⟨e, h⟩ → K e h) → RunK P ls.toArray ls e h K) : AWP P nt (.region id ls.toArray true) Q ⟨e, h⟩ :=
  awp_regAL an _ hm (okReg_of hok) honce hh
/-! Drawn regions in which calls act at some variables, and others are read. -/
def opTags (an : Tmp → Option (Option Nat)) : List Operand → Option (List (Option Nat))
  | [] => some []
  | .tmp t :: l => match an t, opTags an l with
    | some z, some m => some (z :: m)
    | _, _ => none
  | .const _ :: l => opTags an l
  | _ => none
def tagOk (an : Tmp → Option (Option Nat)) (ρ : Operand → AV) (o : Oper) : Prop := (∀ t z, Operand.tmp t ∈ o.op.operands → an t = some z → (ρ (.tmp t)).tagP = some z) ∧ (∀ v, Operand.const v ∈ o.op.operands → ρ (.const v) = .raw v) ∧ ∀ f, Operand.func f ∈ o.op.operands → ρ (.func f) = .raw (.func (.func f) #[] #[])
def sepC (P : Program) (an : Tmp → Option (Option Nat)) (y x : Oper) : Bool := cls P x == 1 && match y.op with
  | .call c => match c.callee with
    | .value (.func _) => cls P y == 3 && match opTags an c.args.toList, opTags an x.op.operands.toList with
      | some ps, some qs => qs.all fun q => match q with
        | none => true
        | some id => !ps.contains (some id) && y.dst != some id
      | _, _ => false
    | _ => false
  | .store _ (.tmp a) _ => match an a, opTags an x.op.operands.toList with
    | some (some p), some qs => qs.all fun q => q != some p
    | _, _ => false
  | _ => false
theorem tag_top {x : AV} {z : Option Nat} (h : x.tagP = some z) : x.top = z := by
  cases x <;> simp only [AV.tagP] at h <;> first | (cases h; rfl) | (cases h) | skip
  all_goals
    split at h
    · cases h; rfl
    · cases h
theorem rowOf_top {g h : Hp} {sz : Nat} {X : AV} (hh : ∀ id, X.top = some id → g id = h id) : rowOf g sz X = rowOf h sz X := by
  cases X <;> simp only [rowOf] <;> first | rfl | (rw [hh _ rfl])
theorem ev_tags {an : Tmp → Option (Option Nat)} {ρ : Operand → AV} {o : Oper} (ht : tagOk an ρ o) : ∀ (l : List Operand) (zs : List (Option Nat)), opTags an l = some zs → (∀ x ∈ l, x ∈ o.op.operands) → ∀ x ∈ l, ∃ z, (ρ x).tagP = some z ∧ (z = none ∨ z ∈ zs)
  | [], _, _, _, x, hx => by cases hx
  | .tmp t :: l, zs, h, hm, x, hx => by
    simp only [opTags] at h
    split at h
    · rename_i z m hz hl
      cases h
      rcases List.mem_cons.1 hx with rfl | hx
      · exact ⟨z, ht.1 t z (hm _ List.mem_cons_self) hz, .inr List.mem_cons_self⟩
      · obtain ⟨z', h1, h2⟩ := ev_tags ht l m hl (fun y hy => hm y (List.mem_cons_of_mem _ hy)) x hx
        exact ⟨z', h1, h2.imp id (List.mem_cons_of_mem _)⟩
    · cases h
  | .const v :: l, zs, h, hm, x, hx => by
    simp only [opTags] at h
    rcases List.mem_cons.1 hx with rfl | hx
    · exact ⟨none, by rw [ht.2.1 v (hm _ List.mem_cons_self)]; rfl, .inl rfl⟩
    · exact ev_tags ht l zs h (fun y hy => hm y (List.mem_cons_of_mem _ hy)) x hx
  | .global _ :: l, zs, h, _, _, _ => by simp [opTags] at h
  | .func _ :: l, zs, h, _, _, _ => by simp [opTags] at h
/-- What is only read hangs on the objects it is handed. -/
theorem D_c1t {ρ : Operand → AV} {o : Oper} {h h' g : Hp} {r : AV} (hc : cls P o = 1) (hd : D P ρ o h r h') (ht : ∀ x ∈ o.op.operands, ∀ id, (ρ x).top = some id → g id = h id) : D P ρ o g r g := by
  have hh := (D_c1 hc hd).1
  subst hh
  unfold D at hd ⊢
  unfold cls at hc
  revert hd hc ht
  cases o.op with
  | call c =>
    intro hc hd ht
    simp only at hc hd ⊢
    cases hcc : c.callee with
    | builtin b =>
      rw [hcc] at hc hd
      cases b <;> simp at hc
      simp only at hd ⊢
      unfold DBuiltin at hd ⊢
      have hops : ∀ x ∈ c.args.toList, x ∈ c.operands.toList := fun x hx => by simp [Call.operands, hcc]; exact Array.mem_toList_iff.1 hx
      simp only [Op.operands] at ht
      generalize c.args.toList = al at hd hops ⊢
      generalize c.argTypes.toList = ts at hd ⊢
      match al, ts, hd with
      | [x], [t], hd =>
        simp only at hd ⊢
        by_cases hs : isStr P t = true
        · rw [if_pos hs] at hd ⊢
          obtain ⟨b, q1, q2, q3⟩ := hd
          exact ⟨b, q1, q2, trivial⟩
        · rw [if_neg hs] at hd ⊢
          obtain ⟨el, sz, b, l, q1, q2, q3, q4⟩ := hd
          exact ⟨el, sz, b, l, q1, by rw [rowOf_top (h := h') (ht x (Array.mem_toList_iff.1 (hops x (by simp))))]; exact q2, q3, trivial⟩
    | value x =>
      rw [hcc] at hc
      simp only at hc
      split at hc
      · split at hc <;> cases hc
      · cases hc
    | invoke _ _ => rw [hcc] at hc; simp at hc
  | convert s t x =>
    intro hc hd ht
    simp only at hc hd ⊢
    unfold DConv at hd ⊢
    split at hc
    · rename_i h1
      rw [if_pos h1] at hd ⊢
      rcases hd with ⟨el, b, l, bs, q1, q2, q3, q4, q5, q6, q7⟩ | ⟨el, b, id, len, l, q0, q1, q2, q3, q4, q5, q6, q7⟩
      · exact .inl ⟨el, b, l, bs, q1, q2, q3, by rw [rowOf_top (h := h') (ht x (by simp [Op.operands]))]; exact q4, q5, q6, rfl⟩
      · refine .inr ⟨el, b, id, len, l, q0, q1, q2, q3, ?_, q5, q6, rfl⟩
        rw [ht x (by simp [Op.operands]) id (by rw [q3]; rfl)]; exact q4
    · split at hc <;> cases hc
  | load t x =>
    intro hc hd ht
    obtain ⟨⟨n, ag, q1, q2⟩, q3⟩ := hd
    exact ⟨⟨n, ag, q1, by rw [ldAt_top (h := h') (ht x (by simp [Op.operands]))]; exact q2⟩, rfl⟩
  | slice t x lo hi mx => intro hc hd ht; simp only at hc; split at hc <;> cases hc
  | _ => intro hc hd ht; simp at hc
theorem ty_tag {an : Tmp → Option (Option Nat)} {ρ : Operand → AV} {y : Oper} {ty : TypeId} {a : Tmp} {v : Operand} {p : Nat} (hop : y.op = .store ty (.tmp a) v) (h : tagOk an ρ y) (hp : an a = some (some p)) : (ρ (.tmp a)).tagP = some (some p) :=
  h.1 a _ (by rw [hop]; simp [Op.operands]) hp
theorem tag_deeps {xs : List AV} (ht : ∀ x ∈ xs, x.tagP ≠ none) (g : Hp) : AV.deeps g xs = xs := by
  induction xs with
  | nil => rfl
  | cons x l ih =>
    rw [AV.deeps, ih (fun y hy => ht y (List.mem_cons_of_mem _ hy))]
    have := ht x List.mem_cons_self
    congr 1
    cases x <;> simp only [AV.tagP] at this <;> first | rfl | exact absurd rfl this | skip
    · split at this
      · rename_i hn; rw [AV.deep]; exact congrArg AV.agg (noid_deep.2 _ hn g)
      · exact absurd rfl this
    · split at this
      · rename_i hn; rw [AV.deep]; exact congrArg (AV.ifc _) (noid_deep.1 _ hn g)
      · exact absurd rfl this
/-- A call's footprint: what it is handed, and what it makes. -/
theorem call_frame {an : Tmp → Option (Option Nat)} {ρ : Operand → AV} {y : Oper} {c : Call} {f : FuncId} {ps : List (Option Nat)} {h h' : Hp} {r : AV} (hop : y.op = .call c) (hcal : c.callee = .value (.func f)) (hc3 : cls P y = 3) (hps : opTags an c.args.toList = some ps) (ty : tagOk an ρ y) (dy : D P ρ y h r h') :
    ∃ hs hs', h' = backH h hs hs' ∧ (∀ id, (hs id).isSome = true → some id ∈ ps) ∧ (∀ id, (hs' id).isSome = true → some id ∈ ps ∨ y.dst = some id) ∧ (∀ id, (hs' id).isSome = true → (hs id).isSome = true ∨ h id = none) ∧ ∀ g, (∀ id, some id ∈ ps ∨ y.dst = some id → g id = h id) → D P ρ y g r (backH g hs hs') := by
  unfold cls at hc3
  rw [hop] at hc3
  simp only [hcal] at hc3
  have hpl : ¬ plainCall P c = true := by
    intro hp
    rw [if_pos hp] at hc3
    split at hc3 <;> cases hc3
  have hD : ∀ g g', D P ρ y g r g' = DCall1 P ρ (.func f) c.args y.dst g r g' := fun g g' => by
    unfold D
    rw [hop]
    simp only [hcal]
    rw [if_neg hpl]
  rw [hD] at dy
  simp only [hD]
  obtain ⟨f', xs, ha, hfn, dy⟩ := dy
  have hf := ty.2.2 f (by rw [hop]; simp [Op.operands, Call.operands, hcal])
  have hxs : xs = c.args.toList.map ρ := by
    unfold argsOf at ha
    rw [hf] at ha
    simp [calleeOf] at ha
    exact ha.2.symm
  have htag : ∀ v ∈ xs, ∃ z, v.tagP = some z ∧ (z = none ∨ z ∈ ps) := fun v hv => by
    rw [hxs] at hv
    obtain ⟨w, hw, rfl⟩ := List.mem_map.1 hv
    exact ev_tags ty _ _ hps (fun v hv => by
      rw [hop]; simp [Op.operands, Call.operands, hcal]; exact .inr (Array.mem_toList_iff.1 hv)) w hw
  have hne : ∀ v ∈ xs, v.tagP ≠ none := fun v hv => by
    obtain ⟨z, h1, _⟩ := htag v hv
    rw [h1]; simp
  have hrow := tag_rows hne
  have hdp := tag_deeps hne
  rw [hrow] at dy
  simp only [frzA, hdp] at dy
  have b0 : ∀ g : Hp, backH g noHeap noHeap = g := fun g => backH_none
  rcases dy with ⟨h1, h2, h3, rfl⟩ | ⟨hs, hs', htc, h1, h2, h3, h4, rfl⟩
  · refine ⟨noHeap, noHeap, (b0 _).symm, fun id hi => (by cases hi), fun id hi => (by cases hi), fun id hi => (by cases hi), fun g _ => ?_⟩
    rw [b0]
    refine ⟨f', xs, ha, hfn, .inl ?_⟩
    rw [hrow]
    simp only [frzA, hdp]
    exact ⟨h1, h2, h3, trivial⟩
  · obtain ⟨t1, t2⟩ := htc hne
    have t1' : ∀ id, (hs id).isSome = true → some id ∈ ps := fun id hi => by
      obtain ⟨v, hv, hvt⟩ := t1 id hi
      obtain ⟨z, hz1, hz2⟩ := htag v hv
      rw [hvt] at hz1; cases hz1
      rcases hz2 with h | h
      · cases h
      · exact h
    have t2' : ∀ id, (hs' id).isSome = true → some id ∈ ps ∨ y.dst = some id := fun id hi => (t2 id hi).imp (t1' id) (fun x => x)
    refine ⟨hs, hs', rfl, t1', t2', h4, fun g hg => ?_⟩
    refine ⟨f', xs, ha, hfn, .inr ⟨hs, hs', htc, ?_⟩⟩
    rw [hrow]
    simp only [frzA, hdp]
    refine ⟨fun id ob hi => ?_, h2, h3, fun id hi => ?_, trivial⟩
    · obtain ⟨k1, k2⟩ := h1 id ob hi
      exact ⟨by rw [hg id (.inl (t1' id (by rw [hi]; rfl)))]; exact k1, k2⟩
    · rcases h4 id hi with k | k
      · exact .inl k
      · exact .inr (by rw [hg id (t2' id hi)]; exact k)
theorem sepC_at {an : Tmp → Option (Option Nat)} {ρ : Operand → AV} {x y : Oper} {h h1 : Hp} {ry : AV} (hs : sepC P an y x = true) (ty : tagOk an ρ y) (tx : tagOk an ρ x) (dy : D P ρ y h ry h1) : cls P x = 1 ∧ ∀ z ∈ x.op.operands, ∀ id, (ρ z).top = some id → h1 id = h id := by
  unfold sepC at hs
  rw [Bool.and_eq_true] at hs
  obtain ⟨hx1, hs⟩ := hs
  have hx1 : cls P x = 1 := by simpa using hx1
  split at hs
  · rename_i c hop
    split at hs
    · rename_i f hcal
      rw [Bool.and_eq_true] at hs
      obtain ⟨hy3, hs⟩ := hs
      have hy3 : cls P y = 3 := by simpa using hy3
      refine ⟨hx1, fun z hz id hid => ?_⟩
      split at hs
      · rename_i ps qs hps hqs
        obtain ⟨hs0, hs1, rfl, t1, t2, _, _⟩ := call_frame hop hcal hy3 hps ty dy
        obtain ⟨q, hq1, hq2⟩ := ev_tags tx _ _ hqs (fun v hv => Array.mem_toList_iff.1 hv) z (Array.mem_toList_iff.2 hz)
        have hqt := tag_top hq1
        rw [hid] at hqt
        subst hqt
        have hq3 : some id ∈ qs := by
          rcases hq2 with h | h
          · cases h
          · exact h
        have hsep := List.all_eq_true.1 hs _ hq3
        simp only [Bool.and_eq_true, Bool.not_eq_true', bne_iff_ne] at hsep
        have n1 : ¬ some id ∈ ps := fun hm => by rw [List.contains_iff_mem.2 hm] at hsep; exact absurd hsep.1 (by decide)
        simp only [backH]
        rw [if_neg (fun h => n1 (t1 id h)), if_neg (fun h => (t2 id h).elim n1 hsep.2)]
      · cases hs
    · cases hs
  · rename_i t0 a v hop
    refine ⟨hx1, fun z hz id hid => ?_⟩
    split at hs
    · rename_i p qs hp hqs
      have hat := ty_tag hop ty hp
      have hao : addrT y.op = some a := by rw [hop]; rfl
      obtain ⟨q, hq1, hq2⟩ := ev_tags tx _ _ hqs (fun v hv => Array.mem_toList_iff.1 hv) z (Array.mem_toList_iff.2 hz)
      have hqt := tag_top hq1
      rw [hid] at hqt
      subst hqt
      have hq3 : some id ∈ qs := by
        rcases hq2 with h | h
        · cases h
        · exact h
      have hsep := List.all_eq_true.1 hs _ hq3
      have hne : id ≠ p := by
        intro e
        rw [e] at hsep
        simp at hsep
      rcases D_addr hao dy with ⟨rfl, _⟩ | ⟨n, v', s1, _⟩
      · rfl
      · obtain ⟨id', ob', e1, rfl, _⟩ := stAt_top s1
        rw [tag_top hat] at e1
        cases e1
        simp only [setH]
        rw [if_neg hne]
    · cases hs
  · cases hs
theorem sepC_d {an : Tmp → Option (Option Nat)} {ρ : Operand → AV} {x y : Oper} {h h1 h2 : Hp} {rx ry : AV} (hs : (sepC P an y x || sepC P an x y) = true) (ty : tagOk an ρ y) (tx : tagOk an ρ x) (dy : D P ρ y h ry h1) (dx : D P ρ x h1 rx h2) : ∃ h1', D P ρ x h rx h1' ∧ D P ρ y h1' ry h2 := by
  rw [Bool.or_eq_true] at hs
  rcases hs with hs | hs
  · obtain ⟨c1, ha⟩ := sepC_at hs ty tx dy
    have hh := (D_c1 c1 dx).1
    subst hh
    exact ⟨h, D_c1t c1 dx (fun z hz id hid => (ha z hz id hid).symm), dy⟩
  · have c1 : cls P y = 1 := by
      unfold sepC at hs
      rw [Bool.and_eq_true] at hs
      simpa using hs.1
    have hh := (D_c1 c1 dy).1
    subst hh
    obtain ⟨_, ha⟩ := sepC_at hs tx ty dx
    exact ⟨h2, dx, D_c1t c1 dy ha⟩
/-- A call, and what is made beside it. -/
def sepE (P : Program) (an : Tmp → Option (Option Nat)) (y x : Oper) : Bool := cls P x == 2 && match y.op with
  | .call c => match c.callee with
    | .value (.func _) => cls P y == 3 && match opTags an c.args.toList, x.dst with
      | some ps, some d => !ps.contains (some d) && y.dst != some d
      | _, _ => false
    | _ => false
  | _ => false
theorem sepE_at {an : Tmp → Option (Option Nat)} {ρ : Operand → AV} {x y : Oper} {h h1 : Hp} {ry : AV} (hs : sepE P an y x = true) (ty : tagOk an ρ y) (dy : D P ρ y h ry h1) : cls P x = 2 ∧ ∃ d hs hs', x.dst = some d ∧ h1 = backH h hs hs' ∧ hs d = none ∧ hs' d = none ∧ ∀ g, (∀ id, id ≠ d → g id = h id) → D P ρ y g ry (backH g hs hs') := by
  unfold sepE at hs
  rw [Bool.and_eq_true] at hs
  obtain ⟨hx2, hs⟩ := hs
  refine ⟨by simpa using hx2, ?_⟩
  split at hs
  · rename_i c hop
    split at hs
    · rename_i f hcal
      rw [Bool.and_eq_true] at hs
      obtain ⟨hy3, hs⟩ := hs
      have hy3 : cls P y = 3 := by simpa using hy3
      split at hs
      · rename_i ps d hps hd
        obtain ⟨k0, k1, e, t1, t2, _, t3⟩ := call_frame hop hcal hy3 hps ty dy
        rw [Bool.and_eq_true] at hs
        have n1 : ¬ some d ∈ ps := fun hm => by have h2 := hs.1; rw [List.contains_iff_mem.2 hm] at h2; exact absurd h2 (by decide)
        have n2 : y.dst ≠ some d := by simpa using hs.2
        refine ⟨d, k0, k1, hd, e, ?_, ?_, fun g hg => t3 g fun id hid => hg id ?_⟩
        · cases h2 : k0 d with
          | none => rfl
          | some _ => exact absurd (t1 d (by rw [h2]; rfl)) n1
        · cases h2 : k1 d with
          | none => rfl
          | some _ => exact ((t2 d (by rw [h2]; rfl)).elim n1 n2).elim
        · rintro rfl
          exact hid.elim n1 n2
      · cases hs
    · cases hs
  · cases hs
theorem back_set {h hs hs' : Hp} {d : Nat} {ob : Ob} (h1 : hs d = none) (h2 : hs' d = none) : backH (setH h d ob) hs hs' = setH (backH h hs hs') d ob := by
  funext id
  simp only [backH, setH]
  by_cases e : id = d
  · subst e; simp [h1, h2]
  · simp [e]
theorem sepE_d {an : Tmp → Option (Option Nat)} {ρ : Operand → AV} {x y : Oper} {h h1 h2 : Hp} {rx ry : AV} (hs : (sepE P an y x || sepE P an x y) = true) (ty : tagOk an ρ y) (tx : tagOk an ρ x) (dy : D P ρ y h ry h1) (dx : D P ρ x h1 rx h2) : ∃ h1', D P ρ x h rx h1' ∧ D P ρ y h1' ry h2 := by
  rw [Bool.or_eq_true] at hs
  rcases hs with hs | hs
  · obtain ⟨c2, d, k0, k1, hd, rfl, z0, z1, hg⟩ := sepE_at hs ty dy
    obtain ⟨d', ob, e1, e2, rfl, e3⟩ := D_c2 c2 dx
    rw [hd] at e1; cases e1
    have hn : h d = none := by
      simp only [backH, z0, z1] at e2
      simpa using e2
    refine ⟨setH h d ob, e3 h hn, ?_⟩
    rw [← back_set z0 z1]
    exact hg _ fun id hid => by simp only [setH]; rw [if_neg hid]
  · obtain ⟨c2, d, k0, k1, hd, rfl, z0, z1, hg⟩ := sepE_at hs tx dx
    obtain ⟨d', ob, e1, e2, rfl, e3⟩ := D_c2 c2 dy
    rw [hd] at e1; cases e1
    refine ⟨backH h k0 k1, hg h fun id hid => by simp only [setH]; rw [if_neg hid], ?_⟩
    rw [back_set z0 z1]
    refine e3 _ ?_
    simp only [backH, z0, z1]
    simpa using e2
def sysC (P : Program) (ann an : Tmp → Option (Option Nat)) : Sys P where
  D ρ o h r h' := D P ρ o h r h' ∧ annOk ann ρ o ∧ tagOk an ρ o
  cls := cls P
  sound := fun s hd hdst K Q hk => D_sound s hd.1 hdst K Q hk
  congr := fun {ρ ρ' o h h' r} hx hd => by
    obtain ⟨h1, h2⟩ := (sysA P ann).congr hx ⟨hd.1, hd.2.1⟩
    exact ⟨h1, h2, fun t z k1 k2 => by rw [← hx _ k1]; exact hd.2.2.1 t z k1 k2, fun v k => by rw [← hx _ k]; exact hd.2.2.2.1 v k, fun f k => by rw [← hx _ k]; exact hd.2.2.2.2 f k⟩
  c0 := fun hc hd => ⟨(D_c0 hc hd.1).1, fun g => ⟨(D_c0 hc hd.1).2 g, hd.2⟩⟩
  c1 := fun hc hd => ⟨(D_c1 hc hd.1).1, fun g hg => ⟨(D_c1 hc hd.1).2.1 g hg, hd.2⟩⟩
  c1d := fun hc hd ht => ⟨(D_c1 hc hd.1).2.2 _ _ _ rfl ht, hd.2⟩
  c2 := fun hc hd => by
    obtain ⟨d, ob, h1, h2, h3, h4⟩ := D_c2 hc hd.1
    exact ⟨d, ob, h1, h2, h3, fun g hg => ⟨h4 g hg, hd.2⟩⟩
  sep := fun y x => sepA ann y x || ((sepC P an y x || sepC P an x y) || (sepE P an y x || sepE P an x y))
  sepd := fun {ρ x y h h1 h2 rx ry} hs hy hx => by
    rw [Bool.or_eq_true] at hs
    rcases hs with hs | hs
    · obtain ⟨g, h1, h2⟩ := sepA_d hs hy.2.1 hx.2.1 hy.1 hx.1
      exact ⟨g, ⟨h1, hx.2⟩, h2, hy.2⟩
    · rw [Bool.or_eq_true] at hs
      rcases hs with hs | hs
      · obtain ⟨g, h1, h2⟩ := sepC_d hs hy.2.2 hx.2.2 hy.1 hx.1
        exact ⟨g, ⟨h1, hx.2⟩, h2, hy.2⟩
      · obtain ⟨g, h1, h2⟩ := sepE_d hs hy.2.2 hx.2.2 hy.1 hx.1
        exact ⟨g, ⟨h1, hx.2⟩, h2, hy.2⟩
def onceC (an : Tmp → Option (Option Nat)) (ops : Array Oper) : Bool := (List.range ops.size).all fun i => match ops[i]? with
  | some o => o.op.operands.toList.all fun x => match x with
    | .tmp t => (an t).isNone || (ops.toList.drop i).all fun q => q.dst != some t
    | _ => true
  | none => true
theorem chainC {ann an : Tmp → Option (Option Nat)} {ops : Array Oper} (honce : onceC an ops = true) {e' : Nat → AV} {h' : Hp} (ha : ∀ t q, an t = some q → (e' t).tagP = some q) : ∀ (n k : Nat) (e : Nat → AV) (h : Hp), k + n = ops.size → Chain (sysA P ann) ops (List.range' k n) e h e' h' → Chain (sysC P ann an) ops (List.range' k n) e h e' h'
  | 0, k, e, h, _, hc => hc
  | n + 1, k, e, h, hk, hc => by
    rw [List.range'_succ] at hc ⊢
    obtain ⟨o, r, h1, ho, hd, hc⟩ := hc
    refine ⟨o, r, h1, ho, ?_, chainC honce ha n (k + 1) _ _ (by omega) hc⟩
    have htag : tagOk an (evE e) o := by
      refine ⟨fun t q h2 h3 => ?_, fun v _ => rfl, fun f _ => rfl⟩
      have h4 := (List.all_eq_true.1 honce) k (List.mem_range.2 (by omega))
      rw [ho] at h4
      have h4 := List.all_eq_true.1 h4 _ (Array.mem_toList_iff.2 h2)
      simp only [h3, Option.isNone_some, Bool.false_or] at h4
      have h5 : ∀ i, k ≤ i → ∀ o', ops[i]? = some o' → o'.dst ≠ some t := by
        intro i hi o' ho'
        have hm : o' ∈ ops.toList.drop k := by
          refine List.mem_of_getElem? (i := i - k) ?_
          rw [List.getElem?_drop, show k + (i - k) = i by omega, Array.getElem?_toList]; exact ho'
        have := (List.all_eq_true.1 h4) o' hm
        simpa using this
      have h6 := chain_keep _ _ _ hc (t := t) (fun i hi => h5 i (by obtain ⟨j, _, rfl⟩ := List.mem_range'.1 hi; omega))
      have h7 : putE e o.dst r t = e t := by
        have := h5 k (Nat.le_refl _) o ho
        exact putE_ne this
      show (e t).tagP = some q
      rw [← h7, ← h6]
      exact ha t q h3
    unfold DG at hd ⊢
    cases hg : o.guard with
    | none => rw [hg] at hd; exact ⟨hd.1, hd.2, htag⟩
    | some jw =>
      rw [hg] at hd
      obtain ⟨t, v, q1, q2, q3⟩ := hd
      exact ⟨t, v, q1, q2, q3.imp (fun x => ⟨x.1, x.2.1, x.2.2, htag⟩) id⟩
theorem annL_tag {e : Nat → AV} : ∀ {l : List (Tmp × Option Nat)}, (∀ p ∈ l, (e p.1).tagP = some p.2) → ∀ t q, annL l t = some q → (e t).tagP = some q
  | (u, q) :: l, hl, t, q', hh => by
    simp only [annL] at hh
    split at hh
    · rename_i e1; subst e1; cases hh; exact hl (t, q) (by simp)
    · exact annL_tag (fun p hp => hl p (by simp [hp])) t q' hh
theorem awp_regCM {id : Nat} {ls : List Oper} (l lc : List (Tmp × Option Nat)) (hm : P.follows .mixedOrders = true) (hok : okRegM (sysC P (annL l) (annL lc)) nt ls.toArray = true) (honce : once ls.toArray = true) (honceC : onceC (annL lc) ls.toArray = true)
    (hh : ∀ K : (Nat → AV) → Hp → Prop, (∀ e h, ((∀ p ∈ l, (e p.1).top = p.2) ∧ ∀ p ∈ lc, (e p.1).tagP = some p.2) → Q .normal ⟨e, h⟩ → K e h) → RunK P ls.toArray ls e h K) : AWP P nt (.region id ls.toArray true) Q ⟨e, h⟩ := by
  obtain ⟨e', h', hc, ⟨ha, hac⟩, hq⟩ := chain_of_run ls 0 e h (by simp) (by simp) (hh (fun e h => ((∀ p ∈ l, (e p.1).top = p.2) ∧ ∀ p ∈ lc, (e p.1).tagP = some p.2) ∧ Q .normal ⟨e, h⟩) fun _ _ x y => ⟨x, y⟩)
  refine awp_region (S := sysC P (annL l) (annL lc)) _ hm (okReg_of hok) (e' := e') (h' := h') ?_ hq
  rw [List.range_eq_range']
  refine chainC honceC (annL_tag hac) _ _ _ _ (by simp) ?_
  refine chainA honce (annL_ok ha) _ _ _ _ (by simp) ?_
  simpa using hc
/-- A region that is not drawn goes on as it is written. -/
theorem awp_regT {id : Nat} {ls : List Oper} (hok : ls.all (fun o => o.dst.all (· < nt)) = true)
    (hh : ∀ K : (Nat → AV) → Hp → Prop, (∀ e h, Q .normal ⟨e, h⟩ → K e h) → RunK P ls.toArray ls e h K) : AWP P nt (.region id ls.toArray false) Q ⟨e, h⟩ := by
  obtain ⟨e', h', hc, hq⟩ := chain_of_run ls 0 e h (by simp) (by simp) (hh (fun e h => Q .normal ⟨e, h⟩) fun _ _ x => x)
  intro C0 C a hex hs
  refine wp_region (ops_of_chain (S := sys P) (fun j q d hj hd => ?_) hq _ _ _ C a (by rw [List.range_eq_range']; simpa using hc) hex hs)
  have := List.all_eq_true.1 hok q (by
    have := List.mem_of_getElem? (l := ls) (i := j) (by simpa using hj)
    exact this)
  rw [hd] at this
  simpa using this
end
/-! The walker's steps, each a rule that finds itself. -/
theorem zzc {p q : Prop} (h : q) (hpq : q → p := by with_reducible first | exact awp_seq | exact then_n | exact then_r | exact then_e | exact awp_skip | exact awp_label | exact awp_ret | exact awp_exit | exact awp_block | exact awp_scope | exact in_n | exact in_r | exact in_e | exact (fun h => in_ne (by decide) h) | exact ng_n | exact ng_r | exact ng_e) : p := hpq h
theorem zzr {P : Program} {rs : List ResultVar} {h1 : Hp} {r : AV} {Q : Exit → St → Prop} (hQ : ∀ σ ex ys r0, (ex = .normal ∨ ex = .ret) → IsO (resAV P σ.env σ.heap rs) ys → Is (outOf ys) r0 → Fin σ.heap r0 h1 r → Q ex σ) {σ : St} {ex : Exit} {ys : List AV} {r0 : AV} (h4 : Fin σ.heap r0 h1 r) (k1 : (ex = .normal ∨ ex = .ret) := by first | exact .inr rfl | exact .inl rfl) (k2 : IsO (resAV P σ.env σ.heap rs) ys := by simp; exact .r) (k3 : Is (outOf ys) r0 := by simp; exact .r) : Q ex σ := hQ σ ex ys r0 k1 k2 k3 h4
theorem zzw {h h1 : Hp} {e : Nat → AV} {l : List (Nat × AV)} (hs : SubH h h1 h1 := by repeat' (first | refine sub_ohp (by first | (simp; done) | (intro hne; simp at hne; simp [hne])) (by simp) ?_ | exact sub_hpL (by simp))) (hb : BigIn h h1 := by simp) (hl : ∀ p ∈ l, e p.1 = p.2 ∧ p.2.within h1 = true := by simp <;> omega) : Weak ⟨e, h⟩ ⟨envA l, h1⟩ := weak_o hs hb hl
theorem zzx {h h1 : Hp} {e : Nat → AV} {l : List (Nat × AV)} (a b : Nat) (ha : a < 100000 := by decide) (hc : b < 100000 := by decide) (hs : SubH (renH (sw a b) (sw a b) h) h1 h1 := by repeat' (first | refine sub_ohp (by first | (simp; done) | (intro hne; simp at hne; simp [hne])) (by simp) ?_ | exact sub_hpL (by simp))) (hb : BigIn (renH (sw a b) (sw a b) h) h1 := by simp) (hl : ∀ p ∈ l, (e p.1).ren (sw a b) = p.2 ∧ p.2.within h1 = true := by simp <;> omega) : Weak ⟨e, h⟩ ⟨envA l, h1⟩ := weak_or a b ha hc hs hb hl
end Go.Proofs.YtngeckkebejhiaaDoor.Asl
