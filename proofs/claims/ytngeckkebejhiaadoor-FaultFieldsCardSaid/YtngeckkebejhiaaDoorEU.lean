/- Errors as abstract values; errors.As and errors.Is as contracts. -/
import Derived.Test.YtngeckkebejhiaaDoorET
import Derived.Test.YtngeckkebejhiaaDoorXF
namespace Go.Proofs.YtngeckkebejhiaaDoor.Asl
open Go Go.RowKit
open Go.Proofs.YtngeckkebejhiaaDoor.Errs (EV Gr Hit)
set_option linter.unusedVariables false
set_option linter.unusedSimpArgs false
def errAV : EV → AV
  | .code c => .ifc 35 (.raw (.int .i64 c))
  | .need lo hi => .ifc 31 (.agg [.raw (.string lo), .raw (.string hi)])
  | .wrap p e => .ifc 40 (.fp (.agg [.raw (.string p), errAV e]))
  | .bare p => .ifc 40 (.fp (.agg [.raw (.string p), .raw .nilIface]))
def errO : Option EV → AV
  | none => .raw .nilIface
  | some e => errAV e
@[simp] theorem errO_none : errO none = .raw .nilIface := rfl
@[simp] theorem errO_some {e : EV} : errO (some e) = errAV e := rfl
@[simp] theorem errAV_code {c : Int} : errAV (.code c) = .ifc 35 (.raw (.int .i64 c)) := rfl
@[simp] theorem errAV_need {lo hi : ByteArray} : errAV (.need lo hi) = .ifc 31 (.agg [.raw (.string lo), .raw (.string hi)]) := rfl
@[simp ↓ high] theorem errAV_noid : ∀ e : EV, (errAV e).noid = true
  | .code _ => by simp
  | .need _ _ => by simp
  | .wrap p e => by simp [errAV]
  | .bare p => by simp [errAV]
@[simp ↓ high] theorem errO_noid (e : Option EV) : (errO e).noid = true := by cases e <;> simp
@[simp ↓ high] theorem errAV_one : ∀ e : EV, (errAV e).one = true
  | .code _ => rfl
  | .need _ _ => rfl
  | .wrap _ _ => rfl
  | .bare _ => rfl
@[simp ↓ high] theorem errO_one (e : Option EV) : (errO e).one = true := by
  cases e with
  | none => rfl
  | some e => exact errAV_one e
@[simp ↓ high] theorem errAV_size (e : EV) : (errAV e).size = 1 := AV.size_one (errAV_one e)
@[simp ↓ high] theorem errO_size (e : Option EV) : (errO e).size = 1 := AV.size_one (errO_one e)
@[simp ↓ high] theorem errAV_isAgg (e : EV) : (errAV e).isAgg = false := by cases e <;> rfl
@[simp ↓ high] theorem errO_isAgg (e : Option EV) : (errO e).isAgg = false := by
  cases e with
  | none => rfl
  | some e => exact errAV_isAgg e
@[simp] theorem errAV_deep (h : Hp) (e : EV) : (errAV e).deep h = errAV e := noid_deep.1 _ (errAV_noid e) h
@[simp] theorem errO_deep (h : Hp) (e : Option EV) : (errO e).deep h = errO e := noid_deep.1 _ (errO_noid e) h
@[simp] theorem errAV_within (h : Hp) (e : EV) : (errAV e).within h = true := (noid_withins h).1 _ (errAV_noid e)
@[simp] theorem errO_within (h : Hp) (e : Option EV) : (errO e).within h = true := (noid_withins h).1 _ (errO_noid e)
@[simp] theorem errAV_ren (π : Nat → Nat) (e : EV) : (errAV e).ren π = errAV e := noid_ren.1 _ (errAV_noid e) π
@[simp] theorem errO_ren (π : Nat → Nat) (e : Option EV) : (errO e).ren π = errO e := noid_ren.1 _ (errO_noid e) π
@[simp] theorem errAV_rows (e : EV) : (errAV e).rowsOf = [] := noid_rows.1 _ (errAV_noid e)
@[simp] theorem errO_rows (e : Option EV) : (errO e).rowsOf = [] := noid_rows.1 _ (errO_noid e)
@[simp ↓ high] theorem errAV_top (e : EV) : (errAV e).top = none := by cases e <;> rfl
@[simp ↓ high] theorem errAV_tag (e : EV) : (errAV e).tagP = some none := by
  cases e with
  | code c => rfl
  | need lo hi => rfl
  | wrap p e => simp only [errAV, AV.tagP]; rw [if_pos (by simp)]
  | bare p => simp only [errAV, AV.tagP]; rw [if_pos (by simp)]
@[simp ↓ high] theorem errO_tag (e : Option EV) : (errO e).tagP = some none := by
  cases e with
  | none => rfl
  | some e => exact errAV_tag e
@[simp ↓ high] theorem ifNil_err (e : EV) : ifNil (errAV e) = some false := by cases e <;> rfl
theorem get_leaf {x : AV} (h : x.isAgg = false) (n : Nat) (ag : Bool) (off : Nat) : AV.get n ag x off = if off = 0 ∧ n = 1 ∧ ag = false then some x else none := by
  cases x with
  | agg l => simp [AV.isAgg] at h
  | _ => simp [AV.get]
theorem set_leaf {x : AV} (h : x.isAgg = false) (n : Nat) (y : AV) (off : Nat) : AV.set n y x off = if off = 0 ∧ n = 1 ∧ y.one = true then some y else none := by
  cases x with
  | agg l => simp [AV.isAgg] at h
  | _ => simp [AV.set]
@[simp ↓ high] theorem errAV_get (e : EV) (n : Nat) (ag : Bool) (off : Nat) : AV.get n ag (errAV e) off = if off = 0 ∧ n = 1 ∧ ag = false then some (errAV e) else none := get_leaf (errAV_isAgg e) n ag off
@[simp ↓ high] theorem errO_get (e : Option EV) (n : Nat) (ag : Bool) (off : Nat) : AV.get n ag (errO e) off = if off = 0 ∧ n = 1 ∧ ag = false then some (errO e) else none := get_leaf (errO_isAgg e) n ag off
@[simp ↓ high] theorem errAV_set (e : EV) (n : Nat) (y : AV) (off : Nat) : AV.set n y (errAV e) off = if off = 0 ∧ n = 1 ∧ y.one = true then some y else none := set_leaf (errAV_isAgg e) n y off
@[simp ↓ high] theorem errO_set (e : Option EV) (n : Nat) (y : AV) (off : Nat) : AV.set n y (errO e) off = if off = 0 ∧ n = 1 ∧ y.one = true then some y else none := set_leaf (errO_isAgg e) n y off
theorem chain_of : ∀ (e : EV) {C : Cx} {v : Value}, RV C (errAV e) v → Errs.Chain C.W v e
  | .code c, C, v, h => by
    cases h with
    | ifc h => rw [RV.raw_eq h]; exact .code c
  | .need lo hi, C, v, h => by
    cases h with
    | ifc h =>
      cases h with
      | agg h =>
        cases h with
        | cons h1 h2 =>
          cases h2 with
          | cons h2 h3 =>
            cases h3
            cases h1 with
            | one h1 _ =>
              cases h2 with
              | one h2 _ =>
                rw [RV.raw_eq h1, RV.raw_eq h2]; exact .need lo hi
  | .wrap p e, C, v, h => by
    cases h with
    | ifc h =>
      cases h with
      | fp h hF hr =>
        cases h with
        | one h h1 => simp [AV.one] at h1
        | agg h =>
          cases h with
          | cons h1 h2 =>
            cases h2 with
            | cons h2 h3 =>
              cases h3
              cases h1 with
              | one h1 _ =>
                obtain ⟨v', rfl, h2v⟩ := h2.val.2 (errAV_isAgg e)
                rw [RV.raw_eq h1] at hr
                refine .wrap _ _ p _ e ?_ ?_ (chain_of e (h2v.up (bare_up C)))
                · exact hr 0 _ rfl
                · exact hr 1 _ rfl
  | .bare p, C, v, h => by
    cases h with
    | ifc h =>
      cases h with
      | fp h hF hr =>
        cases h with
        | one h h1 => simp [AV.one] at h1
        | agg h =>
          cases h with
          | cons h1 h2 =>
            cases h2 with
            | cons h2 h3 =>
              cases h3
              cases h1 with
              | one h1 _ =>
                cases h2 with
                | one h2 _ =>
                  rw [RV.raw_eq h1, RV.raw_eq h2] at hr
                  refine .bare _ _ p ?_ ?_
                  · exact hr 0 _ rfl
                  · exact hr 1 _ rfl
/-- A world that has grown. -/
theorem HOk.gr {C : Cx} {h : Hp} (hh : HOk C h) {W' : World} (g : Gr C.W W') : HOk { C with W := W' } h ∧ Ext C { C with W := W' } ∧ Up C { C with W := W' } := by
  have u : Up C { C with W := W' } := ⟨fun _ h => h, fun b hb => g.old b (hh.lt b hb), fun _ _ h => h⟩
  refine ⟨⟨fun id ob k => (hh.at_ id ob k).up u (fun b T _ hO _ => ⟨hO, g.old b (hh.olt b hO)⟩), hh.no, hh.inj, hh.apart, fun b hb => Nat.lt_of_lt_of_le (hh.lt b hb) g.size, fun b hb => Nat.lt_of_lt_of_le (hh.olt b hb) g.size, hh.gl.up u⟩,
    ⟨g.os, g.tape, g.output, g.size, fun _ h => h, fun b hb _ => g.old b hb, fun _ h => .inl h, fun _ h => .inl h, fun _ _ _ h => h⟩, u⟩
theorem HOk.hit {C : Cx} {X X' : AV} (hh : HOk C (setH noHeap 100000 (.box X))) {W' : World} {b T : Nat} {cs : Array Value} {ty : TypeId} (hι : C.ι 100000 = some (b, T)) (k : Hit C.W W' b cs ty) (hX : RC C.bare X' cs.toList) :
    HOk { C with W := W' } (setH noHeap 100000 (.box X')) ∧ Ext C { C with W := W' } ∧ Up C { C with W := W' } := by
  obtain ⟨W2, g, hp, hw⟩ := k
  obtain ⟨h1, e1, u1⟩ := hh.gr g
  have hs := h1.at_ 100000 (.box X) rfl
  obtain ⟨b', T', cs', t', k1, k2, k3, k4⟩ := hs
  have k1' : C.ι 100000 = some (b', T') := k1
  rw [hι] at k1'
  cases k1'
  have u0 := put_up h1 k2 hp
  have sat : Sat 0 { C with W := W2 } ⟨fun _ => .any, setH noHeap 100000 (.box X)⟩ { tmps := #[], defers := [] } := ⟨rfl, rfl, fun _ => .any _, h1⟩
  have s2 := upd_sat (ob' := .box X') sat rfl rfl hι k2 hp rfl ⟨b, T, cs, ty, hι, k2, hw, (hX.up ((u1.bare).trans u0.bare)).up (bare_up _)⟩
  refine ⟨?_, e1.trans (put_ext k2 hp), u1.trans u0⟩
  have e0 : setH (setH noHeap 100000 (.box X)) 100000 (.box X') = setH noHeap 100000 (.box X') := by
    funext i; simp only [setH]; split <;> rfl
  have := s2.heap
  rw [e0] at this
  exact this
theorem glob_at {C : Cx} {h : Hp} (hh : HOk C h) : C.W.cell? ⟨0, 0, none⟩ = some (Errs.rty 27) := (hh.gl _ (List.mem_cons_self)).2
theorem box_at {C : Cx} {X : AV} (hh : HOk C (setH noHeap 100000 (.box X))) : ∃ b T cs ty, C.ι 100000 = some (b, T) ∧ C.W.heap[b]? = some (.cells cs ty (0, 0)) ∧ cs.size = X.size := by
  obtain ⟨b, T, cs, t, h1, h2, h3, h4⟩ := hh.at_ 100000 (.box X) rfl
  exact ⟨b, T, cs, t, h1, h3, by rw [← Array.length_toList]; exact h4.len⟩
theorem c_AsCode (e : EV) (x : Int) : CallD Tryd.prog 25 [errAV e, .ifc 59 (.ptr 100000 0)] (setH noHeap 100000 (.box (.raw (.int .i64 x)))) (.raw (.bool e.num.isSome)) (setH noHeap 100000 (.box (.raw (.int .i64 (e.num.getD x))))) := by
  intro C vs hC hvs
  obtain ⟨b, T, cs, ty, hι, hb, hn⟩ := box_at hC
  cases hvs with
  | cons h1 h2 =>
    cases h2 with
    | cons h2 h3 =>
      cases h3
      cases h2 with
      | ifc h2 =>
        cases h2 with
        | ptr h2 =>
          rw [hι] at h2; cases h2
          refine Calls.mono (Errs.As_code _ e (chain_of e h1) b cs ty hb hn (glob_at hC)) ?_
          rintro ev W' ⟨q1, q2⟩
          rw [Errs.EV.as_num] at q1 q2
          cases hk : e.num with
          | none =>
            obtain ⟨rfl, g⟩ := q1 (by rw [hk]; rfl)
            obtain ⟨k1, k2, k3⟩ := hC.gr g
            exact ⟨_, _, rfl, rfl, k2, k1, .raw _, fun _ _ h => h⟩
          | some c =>
            obtain ⟨rfl, g⟩ := q2 _ (by rw [hk]; rfl)
            obtain ⟨k1, k2, k3⟩ := hC.hit (X' := .raw (.int .i64 c)) hι g (.one (.raw _) rfl)
            exact ⟨_, _, rfl, rfl, k2, k1, .raw _, fun _ _ h => h⟩
def EV.need? : EV → Option (ByteArray × ByteArray)
  | .code _ => none
  | .need lo hi => some (lo, hi)
  | .wrap _ e => EV.need? e
  | .bare _ => none
theorem as_need_eq : ∀ e : EV, e.as_need = (EV.need? e).map fun p => #[.string p.1, .string p.2]
  | .code _ => rfl
  | .need _ _ => rfl
  | .wrap _ e => by simp only [Errs.EV.as_need, EV.need?]; exact as_need_eq e
  | .bare _ => rfl
abbrev needAV (p : ByteArray × ByteArray) : AV := .agg [.raw (.string p.1), .raw (.string p.2)]
theorem c_AsNeed (e : EV) (x : ByteArray × ByteArray) : CallD Tryd.prog 25 [errAV e, .ifc 57 (.ptr 100000 0)] (setH noHeap 100000 (.box (needAV x))) (.raw (.bool (EV.need? e).isSome)) (setH noHeap 100000 (.box (needAV ((EV.need? e).getD x)))) := by
  intro C vs hC hvs
  obtain ⟨b, T, cs, ty, hι, hb, hn⟩ := box_at hC
  cases hvs with
  | cons h1 h2 =>
    cases h2 with
    | cons h2 h3 =>
      cases h3
      cases h2 with
      | ifc h2 =>
        cases h2 with
        | ptr h2 =>
          rw [hι] at h2; cases h2
          refine Calls.mono (Errs.As_need _ e (chain_of e h1) b cs ty hb hn (glob_at hC)) ?_
          rintro ev W' ⟨q1, q2⟩
          rw [as_need_eq] at q1 q2
          cases hk : EV.need? e with
          | none =>
            obtain ⟨rfl, g⟩ := q1 (by rw [hk]; rfl)
            obtain ⟨k1, k2, k3⟩ := hC.gr g
            exact ⟨_, _, rfl, rfl, k2, k1, .raw _, fun _ _ h => h⟩
          | some c =>
            obtain ⟨rfl, g⟩ := q2 _ (by rw [hk]; rfl)
            obtain ⟨k1, k2, k3⟩ := hC.hit (X' := needAV c) hι g (.agg (.cons (.one (.raw _) rfl) (.cons (.one (.raw _) rfl) .nil)))
            exact ⟨_, _, rfl, rfl, k2, k1, .raw _, fun _ _ h => h⟩
/-- The first link, if it has a place. -/
def EV.link : EV → Option AV
  | .wrap p e => some (.fp (.agg [.raw (.string p), errAV e]))
  | .bare p => some (.fp (.agg [.raw (.string p), .raw .nilIface]))
  | _ => none
theorem c_AsFault (e : EV) (X : AV) (hX : X.size = 1) : CallD Tryd.prog 25 [errAV e, .ifc 58 (.ptr 100000 0)] (setH noHeap 100000 (.box X)) (.raw (.bool (EV.link e).isSome)) (setH noHeap 100000 (.box ((EV.link e).getD X))) := by
  intro C vs hC hvs
  obtain ⟨b, T, cs, ty, hι, hb, hn⟩ := box_at hC
  cases hvs with
  | cons h1 h2 =>
    cases h2 with
    | cons h2 h3 =>
      cases h3
      cases h2 with
      | ifc h2 =>
        cases h2 with
        | ptr h2 =>
          rw [hι] at h2; cases h2
          refine Calls.mono (Errs.As_wrap _ e (chain_of e h1) b cs ty hb (by rw [hn, hX]) (glob_at hC)) ?_
          rintro ev W' ⟨q1, q2⟩
          cases e with
          | code c =>
            obtain ⟨rfl, g⟩ := q1 rfl
            obtain ⟨k1, k2, k3⟩ := hC.gr g
            exact ⟨_, _, rfl, rfl, k2, k1, .raw _, fun _ _ h => h⟩
          | need lo hi =>
            obtain ⟨rfl, g⟩ := q1 rfl
            obtain ⟨k1, k2, k3⟩ := hC.gr g
            exact ⟨_, _, rfl, rfl, k2, k1, .raw _, fun _ _ h => h⟩
          | wrap p e =>
            cases h1 with
            | ifc h1 =>
              obtain ⟨rfl, g⟩ := q2 _ rfl
              obtain ⟨k1, k2, k3⟩ := hC.hit (X' := .fp (.agg [.raw (.string p), errAV e])) hι g (.one (h1.bare (by simp)) rfl)
              exact ⟨_, _, rfl, rfl, k2, k1, .raw _, fun _ _ h => h⟩
          | bare p =>
            cases h1 with
            | ifc h1 =>
              obtain ⟨rfl, g⟩ := q2 _ rfl
              obtain ⟨k1, k2, k3⟩ := hC.hit (X' := .fp (.agg [.raw (.string p), .raw .nilIface])) hι g (.one (h1.bare (by simp)) rfl)
              exact ⟨_, _, rfl, rfl, k2, k1, .raw _, fun _ _ h => h⟩
theorem c_AsNil (t : Nat) (X : AV) : CallD Tryd.prog 25 [.raw .nilIface, .ifc t (.ptr 100000 0)] (setH noHeap 100000 (.box X)) (.raw (.bool false)) (setH noHeap 100000 (.box X)) := by
  intro C vs hC hvs
  cases hvs with
  | cons h1 h2 =>
    cases h2 with
    | cons h2 h3 =>
      cases h3
      rw [RV.raw_eq h1]
      refine Calls.mono (Errs.As_nil _ _) ?_
      rintro ev W' ⟨rfl, rfl⟩
      exact ⟨_, C, rfl, rfl, .refl C, hC, .raw _, fun _ _ h => h⟩
theorem c_IsCode (e : EV) (c : Int) : CallD Tryd.prog 31 [errAV e, .ifc 35 (.raw (.int .i64 c))] noHeap (.raw (.bool (decide (e.num = some c)))) noHeap := by
  intro C vs hC hvs
  cases hvs with
  | cons h1 h2 =>
    cases h2 with
    | cons h2 h3 =>
      cases h3
      cases h2 with
      | ifc h2 =>
        rw [RV.raw_eq h2]
        refine Calls.mono (Errs.Is_code _ e (chain_of e h1) c) ?_
        rintro ev W' ⟨rfl, rfl⟩
        exact ⟨_, C, rfl, rfl, .refl C, hC, .raw _, fun _ _ h => h⟩
end Go.Proofs.YtngeckkebejhiaaDoor.Asl
