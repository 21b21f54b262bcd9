/- Rows that are nil till something is appended; calls that make a variable. -/
import Derived.Test.YtdlmkdgcdbkeaaaAW
namespace Go.Proofs.Ytdlmkdgcdbkeaaa.Asl
open Go Go.RowKit
set_option linter.unusedVariables false
set_option linter.unusedSimpArgs false
variable {P : Program} {nt : Nat} {C : Cx} {σ : St} {Q : Exit → St → Prop} {e : Nat → AV} {h h' : Hp} {K : (Nat → AV) → Hp → Prop} {ops : Array Oper} {l : List Oper} {ty' : TypeId} {pos : String} {af : Array Edge} {dd : Option Tmp}
def orow (id sz : Nat) (l : List AV) : AV := if l = [] then .raw (.slice none 0 0) else .ow id sz 0 l.length
def ohp (id sz : Nat) (l : List AV) (h : Hp) : Hp := fun k => if k = id then (if l = [] then none else some (.arr sz l)) else h k
def killH (id : Nat) (l : List AV) (h : Hp) : Hp := fun k => if k = id then (if l = [] then h k else some .dead) else h k
@[simp] theorem ohp_at {id sz k : Nat} {l : List AV} {h : Hp} : ohp id sz l h k = if k = id then (if l = [] then none else some (.arr sz l)) else h k := rfl
@[simp] theorem killH_at {id k : Nat} {l : List AV} {h : Hp} : killH id l h k = if k = id then (if l = [] then h k else some .dead) else h k := rfl
@[simp] theorem orow_ne {id sz : Nat} {l : List AV} (hl : ¬ l = []) : orow id sz l = .ow id sz 0 l.length := if_neg hl
@[simp] theorem orow_nil {id sz : Nat} : orow id sz [] = .raw (.slice none 0 0) := rfl
theorem ohp_ne {id sz : Nat} {l : List AV} {m : List (Nat × Ob)} (hl : l ≠ []) : ohp id sz l (hpL m) = hpL ((id, .arr sz l) :: m) := by
  funext k; simp only [ohp, hpL]; by_cases hk : k = id
  · rw [if_pos hk, if_pos hk, if_neg hl]
  · rw [if_neg hk, if_neg hk]
theorem ohp_nil {id sz : Nat} {m : List (Nat × Ob)} (hm : hpL m id = none) : ohp id sz [] (hpL m) = hpL m := by
  funext k; simp only [ohp]; split
  · rename_i hk; rw [hk, hm]; rfl
  · rfl
@[simp] theorem rowOf_orow {id sz : Nat} {l : List AV} {h : Hp} (hi : ¬ l = [] → h id = some (.arr sz l)) : rowOf h sz (orow id sz l) = some l := by
  unfold orow
  split
  · rename_i hl; subst hl; rfl
  · rename_i hl; simp [rowOf, hi hl]
@[simp] theorem bigIn_ohp {id sz : Nat} {xs : List AV} {h g : Hp} (hu : id < 100000) : BigIn (ohp id sz xs h) g ↔ BigIn h g := by
  have key : ∀ k, 100000 ≤ k → ohp id sz xs h k = h k := fun k hk => by simp only [ohp]; rw [if_neg (by omega)]
  exact ⟨fun hh k h1 h2 => by rw [← key k h1]; exact hh k h1 h2, fun hh k h1 h2 => by rw [key k h1]; exact hh k h1 h2⟩
@[simp] theorem bigIn_killH {id : Nat} {xs : List AV} {h g : Hp} (hu : id < 100000) : BigIn (killH id xs h) g ↔ BigIn h g := by
  have key : ∀ k, 100000 ≤ k → killH id xs h k = h k := fun k hk => by simp only [killH]; rw [if_neg (by omega)]
  exact ⟨fun hh k h1 h2 => by rw [← key k h1]; exact hh k h1 h2, fun hh k h1 h2 => by rw [key k h1]; exact hh k h1 h2⟩
@[simp] theorem renH_at {a b i : Nat} {h : Hp} : renH (sw a b) (sw a b) h i = (h (sw a b i)).map (Ob.ren (sw a b)) := rfl
theorem w_appendX {x y : Operand} {t u el sz b q id : Nat} {xs ys : List AV} {Y : AV} {m : Nat} (ht : IsO (rowI P t) (el, sz, b)) (hx : Is (evE e x) (orow id sz xs)) (hi : ¬ xs = [] → h id = some (.arr sz xs)) (hY : Is (evE e y) Y) (hy : IsO (srcOf P h sz u Y) ys) (hq : Is (h q) none) (hne : ys ≠ [])
    (h1 : (xs.length + ys.length) * b ≤ 140737488355328) (h2 : xs.length + ys.length ≤ 140737488355328) (hm : Is (xs.length + ys.length) m) (hr : RunK P ops l (putE e (some q) (.ow q sz 0 m)) (setH (killH id xs h) q (.arr sz (xs ++ ys))) K) : RunK P ops (⟨some q, .call { callee := .builtin .append, args := #[x, y], argTypes := #[t, u] }, ty', pos, af, none⟩ :: l) e h K := by
  by_cases hxs : xs = []
  · subst hxs
    have e1 : killH id ([] : List AV) h = h := by funext k; simp only [killH]; split <;> rfl
    rw [e1] at hr
    refine w_append0 ht hx rfl hY hy hq hne (by simpa using h1) (by simpa using h2) ?_ hr
    simpa using hm
  · have e1 : killH id xs h = setH h id .dead := by funext k; simp only [killH, setH]; rw [if_neg hxs]
    rw [e1] at hr
    rw [orow_ne hxs] at hx
    exact w_append ht hx (hi hxs) hY hy hq (Nat.le_refl _) h1 h2 (by simp [Is]) hm hr
/-- A variable that was made, under another name. -/
theorem CallD.ownB {f : FuncId} {xs : List AV} {x : AV} (hn : AV.noids xs = true) (hy : x.noid = true) (q : Nat) (hc : CallD P f xs noHeap (.ptr 99999 0) (setH noHeap 99999 (.box x))) : CallD P f xs noHeap (.ptr q 0) (setH noHeap q (.box x)) := by
  have := hc.sw 99999 q
  rw [noid_ren.2 _ hn, renH_no, renH_set, renH_no] at this
  simp only [AV.ren, Ob.ren, noid_ren.1 _ hy, sw, if_true] at this
  exact this
/-- A call that hands back a variable that it made. -/
theorem w_callB {args : Array Operand} {ats : Array TypeId} {x : Operand} {f : FuncId} {xs ys : List AV} {g : Hp} {q : Nat} {X : AV} (hp : Is (plainCall P ⟨.value x, args, ats⟩) false) (ha : IsO (argsOf (evE e) x args) (f, xs)) (hf : Is (isFn P f) true) (hfr : Is (frzA h (AV.rowsOfs xs)) g) (hs : Is (AV.deeps g xs) ys) (hn : Is (AV.noids ys) true) (hq : Is (g q) none)
    (hcall : CallD P f ys noHeap (.ptr 99999 0) (setH noHeap 99999 (.box X))) (hz : Is X.noid true) (hr : RunK P ops l (putE e (some q) (.ptr q 0)) (setH g q (.box X)) K) : RunK P ops (⟨some q, .call ⟨.value x, args, ats⟩, ty', pos, af, none⟩ :: l) e h K :=
  w_callS (hs := noHeap) (hs' := setH noHeap q (.box X)) hp ha hf hfr hs (fun id ob h => by cases h) (noid_within.2 _ hn) (hcall.ownB hn hz q) (fun id hi => by
    by_cases e : id = q
    · subst e; exact .inr hq
    · simp [setH, e, noHeap] at hi) backH_new hr
/-- A variable that was made, handed on. -/
theorem Fin.box {k : Nat} {x : AV} (hk : IsO (h k) (.box x)) (hn : Is x.noid true) (hlt : k < 100000) (hb : BigIn h noHeap) : Fin h (.ptr k 0) (setH noHeap 99999 (.box x)) (.ptr 99999 0) := by
  have h1 : Fin h (.ptr k 0) (setH noHeap k (.box x)) (.ptr k 0) := by
    refine Fin.sub (fun id ob hid => ?_) (fun id h1 h2 => ?_) ?_
    · simp only [setH_at, noHeap_at] at hid
      split at hid
      · rename_i e; subst e; cases hid
        exact ⟨hk, (noid_withins _).1 _ hn⟩
      · cases hid
    · exact hb id h1 rfl
    · show (AV.within _ (.ptr k 0)) = true
      simp [AV.within, setH]
  refine h1.trans ?_
  have h2 := Weak.ren (e := E1 (.ptr k 0)) (h := setH noHeap k (.box x)) (sw_sw k 99999) (sw_sw k 99999) (fun i hi => by unfold sw; rw [if_neg (by omega), if_neg (by omega)])
  rw [renH_set, renH_no] at h2
  have e1 : (fun t => (E1 (.ptr k 0) t).ren (sw k 99999)) = E1 (.ptr 99999 0) := by
    funext t
    unfold E1
    split
    · simp [AV.ren, sw]
    · rfl
  have e2 : (Ob.box x).ren (sw k 99999) = .box x := by simp [Ob.ren, noid_ren.1 _ hn]
  rw [e1, e2] at h2
  simp only [sw, if_true] at h2
  exact h2
/-- What came in stays as it is told; all else is dropped. -/
theorem Fin.keep {X : AV} {r : AV} (hk : IsO (h 100000) (.box X)) (hX : Is X.noid true) (hr : Is r.noid true) (hb : BigIn h (setH noHeap 100000 (.box X))) : Fin h r (setH noHeap 100000 (.box X)) r := by
  refine Fin.sub (fun id ob hid => ?_) hb ((noid_withins _).1 _ hr)
  simp only [setH_at, noHeap_at] at hid
  split at hid
  · rename_i e; subst e; cases hid
    exact ⟨hk, (noid_withins _).1 _ hX⟩
  · cases hid
/-! A state that is told with less, among rows that may be nil. -/
def SubH (h g h' : Hp) : Prop := ∀ id ob, g id = some ob → h id = some ob ∧ ob.within h' = true
theorem sub_hpL {m : List (Nat × Ob)} (hm : ∀ p ∈ m, h p.1 = some p.2 ∧ p.2.within h' = true) : SubH h (hpL m) h' := fun id ob hid => hm _ (hpL_mem hid)
theorem sub_ohp {id sz : Nat} {xs : List AV} {g : Hp} (hx : ¬ xs = [] → h id = some (.arr sz xs)) (hn : AV.withins h' xs = true) (hs : SubH h g h') : SubH h (ohp id sz xs g) h' := fun k ob hk => by
  simp only [ohp] at hk
  split at hk
  · split at hk
    · cases hk
    · rename_i e1 e2; subst e1; cases hk
      exact ⟨hx e2, hn⟩
  · exact hs k ob hk
@[simp] theorem orow_within {id sz : Nat} {xs : List AV} (hi : ¬ xs = [] → (h id).isSome = true) : (orow id sz xs).within h = true := by
  unfold orow
  split
  · rfl
  · rename_i hx; exact hi hx
@[simp] theorem orow_noid_nil {id sz : Nat} : (orow id sz []).noid = true := rfl
@[simp] theorem orow_ren {id sz a b : Nat} {xs : List AV} : (orow id sz xs).ren (sw a b) = orow (sw a b id) sz xs := by
  unfold orow
  split <;> simp
@[simp] theorem bigIn_tgt {id sz : Nat} {xs : List AV} {h g : Hp} (hu : id < 100000) : BigIn h (ohp id sz xs g) ↔ BigIn h g := by
  have key : ∀ k, 100000 ≤ k → ohp id sz xs g k = g k := fun k hk => by simp only [ohp]; rw [if_neg (by omega)]
  exact ⟨fun hh k h1 h2 => hh k h1 (by rw [key k h1]; exact h2), fun hh k h1 h2 => hh k h1 (by rw [← key k h1]; exact h2)⟩
@[simp] theorem bigIn_renH {a b : Nat} {h g : Hp} (ha : a < 100000) (hb : b < 100000) : BigIn (renH (sw a b) (sw a b) h) g ↔ BigIn h g := by
  have key : ∀ k, 100000 ≤ k → (renH (sw a b) (sw a b) h k = none ↔ h k = none) := fun k hk => by
    simp only [renH, sw]
    rw [if_neg (by omega), if_neg (by omega), Option.map_eq_none_iff]
  exact ⟨fun hh k h1 h2 => (key k h1).1 (hh k h1 h2), fun hh k h1 h2 => (key k h1).2 (hh k h1 h2)⟩
theorem weak_o {l : List (Nat × AV)} (hs : SubH h h' h') (hb : BigIn h h') (hl : ∀ p ∈ l, e p.1 = p.2 ∧ p.2.within h' = true) : Weak ⟨e, h⟩ ⟨envA l, h'⟩ := by
  refine Weak.sub hs hb fun t => ?_
  rcases envA_weak (l := l) (fun p hp => (hl p hp).1) t with h1 | h1
  · exact .inl h1
  · have : ∀ {l : List (Nat × AV)}, (∀ p ∈ l, e p.1 = p.2 ∧ p.2.within h' = true) → envA l t = .any ∨ (envA l t).within h' = true := by
      intro l
      induction l with
      | nil => intro _; exact .inl rfl
      | cons p l ih =>
        intro hp
        obtain ⟨u, v⟩ := p
        simp only [envA]
        split
        · exact .inr (hp (u, v) (by simp)).2
        · exact ih fun q hq => hp q (by simp [hq])
    rcases this hl with h2 | h2
    · exact .inl h2
    · exact .inr ⟨h1, by rw [← h1]; exact h2⟩
theorem weak_or {l : List (Nat × AV)} (a b : Nat) (ha : a < 100000) (hb' : b < 100000) (hs : SubH (renH (sw a b) (sw a b) h) h' h') (hb : BigIn (renH (sw a b) (sw a b) h) h') (hl : ∀ p ∈ l, (e p.1).ren (sw a b) = p.2 ∧ p.2.within h' = true) : Weak ⟨e, h⟩ ⟨envA l, h'⟩ :=
  (Weak.ren (sw_sw a b) (sw_sw a b) (fun i hi => by unfold sw; rw [if_neg (by omega), if_neg (by omega)])).trans (weak_o hs hb hl)
theorem weak_or2 {l : List (Nat × AV)} (a b c d : Nat) (ha : a < 100000) (hb' : b < 100000) (hc : c < 100000) (hd : d < 100000) (hs : SubH (renH (sw c d) (sw c d) (renH (sw a b) (sw a b) h)) h' h') (hb : BigIn (renH (sw c d) (sw c d) (renH (sw a b) (sw a b) h)) h') (hl : ∀ p ∈ l, ((e p.1).ren (sw a b)).ren (sw c d) = p.2 ∧ p.2.within h' = true) : Weak ⟨e, h⟩ ⟨envA l, h'⟩ :=
  (Weak.ren (sw_sw a b) (sw_sw a b) (fun i hi => by unfold sw; rw [if_neg (by omega), if_neg (by omega)])).trans (weak_or c d hc hd hs hb hl)
attribute [simp] nums_eq AV.flat AV.flats
@[simp] theorem u8s_nil : u8s [] = [] := rfl
@[simp] theorem u8s_eq_nil {l : List Int} : u8s l = [] ↔ l = [] := by simp [u8s]
@[simp] theorem take_snoc2 {α : Type} (l : List α) (x y : α) : List.take (l.length + 2) (l ++ [x, y]) = l ++ [x, y] := List.take_of_length_le (by simp)
@[simp] theorem take_snocm {α β : Type} (l : List α) (f : α → β) (x : β) : List.take (l.length + 1) (List.map f l ++ [x]) = List.map f l ++ [x] := List.take_of_length_le (by simp)
@[simp] theorem take_snoc2m {α β : Type} (l : List α) (f : α → β) (x y : β) : List.take (l.length + 2) (List.map f l ++ [x, y]) = List.map f l ++ [x, y] := List.take_of_length_le (by simp)
@[simp] theorem strOf_nil : Asl.strOf [] = some [] := rfl
@[simp] theorem strOf_cons (n : Int) (l : List AV) : Asl.strOf (.raw (.int .u8 n) :: l) = (Asl.strOf l).map fun r => UInt8.ofNat n.toNat :: r := by
  simp only [Asl.strOf, byteOf]
  cases Asl.strOf l <;> rfl
theorem w_remU {t ty : TypeId} {x y : Operand} {k : IntKind} {X Y : Int} (hx : Is (evE e x) (.raw (.int k X))) (hy : Is (evE e y) (.raw (.int k Y))) (h0 : 0 ≤ X) (h1 : 0 < Y) (hr : RunK P ops l (putE e dd (.raw (.int k (X % Y)))) h K) : RunK P ops (⟨dd, .binOp .rem t x y ty, ty', pos, af, none⟩ :: l) e h K :=
  w_bin hx hy (by
    show binV .rem (.int k X) (.int k Y) = some (.int k (X % Y))
    simp [binV, Int.tmod_eq_emod_of_nonneg h0, Int.ne_of_gt h1]) hr
theorem w_quoU {t ty : TypeId} {x y : Operand} {k : IntKind} {X Y w : Int} (hx : Is (evE e x) (.raw (.int k X))) (hy : Is (evE e y) (.raw (.int k Y))) (h0 : 0 ≤ X) (h1 : 0 < Y) (hw : Is (k.wrap (X / Y)) w) (hr : RunK P ops l (putE e dd (.raw (.int k w))) h K) : RunK P ops (⟨dd, .binOp .quo t x y ty, ty', pos, af, none⟩ :: l) e h K :=
  w_bin hx hy (by
    show binV .quo (.int k X) (.int k Y) = some (.int k w)
    rw [← hw]
    simp [binV, Int.tdiv_eq_ediv_of_nonneg h0, Int.ne_of_gt h1]) hr
theorem w_gU {op : Op} {j : Nat} {w : Bool} {t : Tmp} (ht : (ops[j]?).bind (·.dst) = some t) (he : Is (e t) (.raw undef)) (hr : RunK P ops l (putE e dd (.raw undef)) h K) : RunK P ops (⟨dd, op, ty', pos, af, some (j, w)⟩ :: l) e h K :=
  run_gF rfl ht he (by simp [undef]) hr
@[simp] theorem ite_min (x y : Int) : (if y < x then y else x) = min x y := by split <;> omega
@[simp] theorem ite_max (x y : Int) : (if x < y then y else x) = max x y := by split <;> omega
theorem w_minC {args : Array Operand} {ats : Array TypeId} {X : AV} (hx : IsO (minV (args.toList.map (evE e))) X) (hr : RunK P ops l (putE e dd X) h K) : RunK P ops (⟨dd, .call ⟨.builtin .min, args, ats⟩, ty', pos, af, none⟩ :: l) e h K := w_min (c := ⟨.builtin .min, args, ats⟩) hx hr
theorem w_maxC {args : Array Operand} {ats : Array TypeId} {X : AV} (hx : IsO (maxV (args.toList.map (evE e))) X) (hr : RunK P ops l (putE e dd X) h K) : RunK P ops (⟨dd, .call ⟨.builtin .max, args, ats⟩, ty', pos, af, none⟩ :: l) e h K := w_max (c := ⟨.builtin .max, args, ats⟩) hx hr
@[simp] theorem toNat_add_nat (a i : Nat) : ((a : Int) + (i : Int)).toNat = a + i := by omega
theorem Fin.tupNil2 {h : Hp} {sz : Nat} {x : AV} {xs : List AV} : Fin h (.tup (x :: .raw (.slice none 0 0) :: xs)) h (.tup (x :: .sl sz [] :: xs)) := Fin.imp fun C v hv => by
  cases hv with
  | tup hv =>
    cases hv with
    | cons h0 h1 =>
      cases h1 with
      | cons h1 h2 =>
        rw [RV.raw_eq h1]
        exact .tup (.cons h0 (.cons .sl0 h2))
/-! Ways among a region's operations, by bits. -/
section
variable {P : Program} {nt : Nat} {Q : Exit → St → Prop} {e : Nat → AV} {h : Hp}
def direct (ops : Array Oper) (j : Nat) : Nat := match ops[j]? with
  | none => 0
  | some o => o.after.toList.foldr (fun e acc => bif Region.binds .any e then (1 <<< e.on) ||| acc else acc) 0
def closeM (ops : Array Oper) : Nat → Nat → Nat
  | 0, m => m
  | j + 1, m => closeM ops j (bif m.testBit j then m ||| direct ops j else m)
def okRegM (S : Sys P) (nt : Nat) (ops : Array Oper) : Bool :=
  ops.all (fun o => o.dst.all (· < nt) && (match o.op with | .select .. => false | _ => true)) &&
  (List.range ops.size).all fun i => match ops[i]? with
    | none => true
    | some x => x.after.all (fun e => !Region.binds .any e || decide (e.on < i)) &&
      (List.range i).all fun y => (closeM ops i (direct ops i)).testBit y || match ops[y]? with
        | none => true
        | some o => indep S ops o x
theorem anc_mono {ops : Array Oper} : ∀ (k i y : Nat), y ∈ anc ops k i → y ∈ anc ops (k + 1) i
  | 0, i, y, h => by simp [anc] at h
  | k + 1, i, y, h => by
    simp only [anc] at h ⊢
    cases ho : ops[i]? with
    | none => rw [ho] at h; simp at h
    | some o =>
      rw [ho] at h
      simp only [List.mem_flatMap] at h ⊢
      obtain ⟨j, hj, hy⟩ := h
      refine ⟨j, hj, ?_⟩
      rcases List.mem_cons.1 hy with rfl | hy
      · exact List.mem_cons_self
      · exact List.mem_cons_of_mem _ (by have := anc_mono k j y hy; simpa only [anc] using this)
theorem anc_up {ops : Array Oper} {k k' i y : Nat} (hk : k ≤ k') (h : y ∈ anc ops k i) : y ∈ anc ops k' i := by
  obtain ⟨d, rfl⟩ := Nat.le.dest hk
  induction d with
  | zero => exact h
  | succ d ih => exact anc_mono _ _ _ (ih (by omega))
theorem direct_bit {ops : Array Oper} {j z : Nat} (h : (direct ops j).testBit z = true) : ∃ o, ops[j]? = some o ∧ ∃ e ∈ o.after, Region.binds .any e = true ∧ e.on = z := by
  unfold direct at h
  cases ho : ops[j]? with
  | none => rw [ho] at h; simp at h
  | some o =>
    rw [ho] at h
    refine ⟨o, rfl, ?_⟩
    have : ∀ l : List Edge, (l.foldr (fun e acc => bif Region.binds .any e then (1 <<< e.on) ||| acc else acc) 0).testBit z = true → ∃ e ∈ l, Region.binds .any e = true ∧ e.on = z := by
      intro l
      induction l with
      | nil => intro h; simp at h
      | cons e l ih =>
        intro h
        rw [List.foldr_cons] at h
        cases hb : Region.binds .any e with
        | false =>
          rw [hb] at h
          obtain ⟨e', h1, h2⟩ := ih h
          exact ⟨e', List.mem_cons_of_mem _ h1, h2⟩
        | true =>
          rw [hb] at h
          simp only [cond_true, Nat.testBit_or, Bool.or_eq_true] at h
          rcases h with h | h
          · refine ⟨e, List.mem_cons_self, hb, ?_⟩
            rw [Nat.one_shiftLeft, Nat.testBit_two_pow] at h
            simpa using h
          · obtain ⟨e', h1, h2⟩ := ih h
            exact ⟨e', List.mem_cons_of_mem _ h1, h2⟩
    obtain ⟨e, h1, h2⟩ := this _ h
    exact ⟨e, Array.mem_toList_iff.1 h1, h2⟩
theorem anc_direct {ops : Array Oper} {k j z : Nat} (h : (direct ops j).testBit z = true) : z ∈ anc ops (k + 1) j := by
  obtain ⟨o, ho, e, he, hb, rfl⟩ := direct_bit h
  simp only [anc, ho, List.mem_flatMap]
  exact ⟨e.on, List.mem_filterMap.2 ⟨e, Array.mem_toList_iff.2 he, by simp [hb]⟩, List.mem_cons_self⟩
theorem anc_step {ops : Array Oper} {y z : Nat} (hz : (direct ops y).testBit z = true) : ∀ (k i : Nat), y ∈ anc ops k i → z ∈ anc ops (k + 1) i
  | 0, i, h => by simp [anc] at h
  | k + 1, i, h => by
    rw [anc] at h ⊢
    cases ho : ops[i]? with
    | none => rw [ho] at h; simp at h
    | some o =>
      rw [ho] at h
      simp only [List.mem_flatMap] at h ⊢
      obtain ⟨j, hj, hy⟩ := h
      refine ⟨j, hj, List.mem_cons_of_mem _ ?_⟩
      rcases List.mem_cons.1 hy with rfl | hy
      · exact anc_direct hz
      · exact anc_step hz k j hy
theorem closeM_anc {ops : Array Oper} {i : Nat} (hd : ∀ j o, ops[j]? = some o → ∀ e ∈ o.after, Region.binds .any e = true → e.on < j) : ∀ (n m : Nat), (∀ y, m.testBit y = true → y < i ∧ y ∈ anc ops (i - y) i) → ∀ y, (closeM ops n m).testBit y = true → y < i ∧ y ∈ anc ops (i - y) i
  | 0, m, hm, y, h => hm y h
  | n + 1, m, hm, y, h => by
    rw [closeM] at h
    refine closeM_anc hd n _ (fun z hz => ?_) y h
    cases hb : m.testBit n with
    | false => rw [hb] at hz; exact hm z hz
    | true =>
      rw [hb] at hz
      simp only [cond_true, Nat.testBit_or, Bool.or_eq_true] at hz
      rcases hz with hz | hz
      · exact hm z hz
      · obtain ⟨h1, h2⟩ := hm n hb
        obtain ⟨o, ho, e, he, hbe, hez⟩ := direct_bit hz
        have hlt := hd n o ho e he hbe
        exact ⟨by omega, anc_up (k := i - n + 1) (by omega) (anc_step hz _ _ h2)⟩
theorem okReg_of {S : Sys P} {ops : Array Oper} (h : okRegM S nt ops = true) : okRegion S nt ops ops.size = true := by
  unfold okRegM at h
  unfold okRegion
  rw [Bool.and_eq_true] at h ⊢
  refine ⟨h.1, ?_⟩
  have h2 := h.2
  rw [List.all_eq_true] at h2 ⊢
  have hd : ∀ j o, ops[j]? = some o → ∀ e ∈ o.after, Region.binds .any e = true → e.on < j := by
    intro j o ho e he hb
    have hj := (Array.getElem?_eq_some_iff.1 ho).1
    have := h2 j (List.mem_range.2 hj)
    rw [ho] at this
    simp only [Bool.and_eq_true] at this
    have := Array.all_eq_true_iff_forall_mem.1 this.1 e he
    rw [hb] at this
    simpa using this
  intro i hi
  have hil := List.mem_range.1 hi
  have h3 := h2 i hi
  cases ho : ops[i]? with
  | none => rfl
  | some x =>
    rw [ho] at h3
    simp only [Bool.and_eq_true] at h3 ⊢
    refine ⟨h3.1, ?_⟩
    have h4 := h3.2
    rw [List.all_eq_true] at h4 ⊢
    intro y hy
    have h5 := h4 y hy
    rw [Bool.or_eq_true] at h5 ⊢
    rcases h5 with h5 | h5
    · left
      obtain ⟨_, h6⟩ := closeM_anc hd i _ (fun z hz => by
        obtain ⟨o, ho', e, he, hbe, hez⟩ := direct_bit hz
        have := hd i o ho' e he hbe
        exact ⟨by omega, anc_up (k := 1) (by omega) (anc_direct (k := 0) hz)⟩) y h5
      rw [List.contains_iff_mem]
      exact anc_up (by omega) h6
    · exact .inr h5
theorem awp_regM {id : Nat} {ls : List Oper} (hm : P.follows .mixedOrders = true) (hok : okRegM (sys P) nt ls.toArray = true)
    (hh : ∀ K : (Nat → AV) → Hp → Prop, (∀ e h, Q .normal ⟨e, h⟩ → K e h) → RunK P ls.toArray ls e h K) : AWP P nt (.region id ls.toArray false) Q ⟨e, h⟩ :=
  awp_regL _ hm (okReg_of hok) hh
theorem awp_regAM {id : Nat} {ls : List Oper} (an : List (Tmp × Option Nat)) (hm : P.follows .mixedOrders = true) (hok : okRegM (sysA P (annL an)) nt ls.toArray = true) (honce : once ls.toArray = true)
    (hh : ∀ K : (Nat → AV) → Hp → Prop, (∀ e h, (∀ p ∈ an, (e p.1).top = p.2) → Q .normal ⟨e, h⟩ → K e h) → RunK P ls.toArray ls e h K) : AWP P nt (.region id ls.toArray true) Q ⟨e, h⟩ :=
  awp_regAL an _ hm (okReg_of hok) honce hh
end
end Go.Proofs.Ytdlmkdgcdbkeaaa.Asl
