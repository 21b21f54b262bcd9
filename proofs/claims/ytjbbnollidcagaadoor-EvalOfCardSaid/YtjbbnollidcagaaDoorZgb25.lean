/- Part 25 of what the row leans on: abstract values and states, their rules, and the contracts of the functions. -/
import Derived.Test.YtjbbnollidcagaaDoorZgb24
namespace Go.Proofs.YtjbbnollidcagaaDoor.Asl
open Go Go.RowKit
open Go.Proofs.YtjbbnollidcagaaDoor.Errs (EV Gr Hit)
set_option linter.unusedVariables false
set_option linter.unusedSimpArgs false
def errAV : EV → AV
  | .code c => .ifc 25 (.raw (.int .i64 c))
  | .need lo hi => .ifc 48 (.agg [.raw (.string lo), .raw (.string hi)])
  | .wrap p e => .ifc 86 (.fp (.agg [.raw (.string p), errAV e]))
def errO : Option EV → AV
  | none => .raw .nilIface
  | some e => errAV e
@[simp] theorem errO_none : errO none = .raw .nilIface := rfl
@[simp] theorem errO_some {e : EV} : errO (some e) = errAV e := rfl
@[simp] theorem errAV_code {c : Int} : errAV (.code c) = .ifc 25 (.raw (.int .i64 c)) := rfl
@[simp] theorem errAV_need {lo hi : ByteArray} : errAV (.need lo hi) = .ifc 48 (.agg [.raw (.string lo), .raw (.string hi)]) := rfl
@[simp ↓ high] theorem errAV_noid : ∀ e : EV, (errAV e).noid = true
  | .code _ => by simp
  | .need _ _ => by simp
  | .wrap p e => by simp [errAV]
@[simp ↓ high] theorem errO_noid (e : Option EV) : (errO e).noid = true := by cases e <;> simp
@[simp ↓ high] theorem errAV_one : ∀ e : EV, (errAV e).one = true
  | .code _ => rfl
  | .need _ _ => rfl
  | .wrap _ _ => rfl
@[simp ↓ high] theorem errO_one (e : Option EV) : (errO e).one = true := by
  cases e with
  | none => rfl
  | some e => exact errAV_one e
@[simp ↓ high] theorem errAV_size (e : EV) : (errAV e).size = 1 := AV.size_one (errAV_one e)
@[simp ↓ high] theorem errO_size (e : Option EV) : (errO e).size = 1 := AV.size_one (errO_one e)
@[simp ↓ high] theorem errAV_isAgg (e : EV) : (errAV e).isAgg = false := by cases e <;> rfl
@[simp ↓ high] theorem errO_isAgg (e : Option EV) : (errO e).isAgg = false := by
  cases e with
  | none => rfl
  | some e => exact errAV_isAgg e
@[simp] theorem errAV_deep (h : Hp) (e : EV) : (errAV e).deep h = errAV e := noid_deep.1 _ (errAV_noid e) h
@[simp] theorem errO_deep (h : Hp) (e : Option EV) : (errO e).deep h = errO e := noid_deep.1 _ (errO_noid e) h
@[simp] theorem errAV_within (h : Hp) (e : EV) : (errAV e).within h = true := (noid_withins h).1 _ (errAV_noid e)
@[simp] theorem errO_within (h : Hp) (e : Option EV) : (errO e).within h = true := (noid_withins h).1 _ (errO_noid e)
@[simp] theorem errAV_ren (π : Nat → Nat) (e : EV) : (errAV e).ren π = errAV e := noid_ren.1 _ (errAV_noid e) π
@[simp] theorem errO_ren (π : Nat → Nat) (e : Option EV) : (errO e).ren π = errO e := noid_ren.1 _ (errO_noid e) π
@[simp] theorem errAV_rows (e : EV) : (errAV e).rowsOf = [] := noid_rows.1 _ (errAV_noid e)
@[simp] theorem errO_rows (e : Option EV) : (errO e).rowsOf = [] := noid_rows.1 _ (errO_noid e)
@[simp ↓ high] theorem errAV_top (e : EV) : (errAV e).top = none := by cases e <;> rfl
@[simp ↓ high] theorem errAV_tag (e : EV) : (errAV e).tagP = some none := by
  cases e with
  | code c => rfl
  | need lo hi => rfl
  | wrap p e => simp only [errAV, AV.tagP]; rw [if_pos (by simp)]
@[simp ↓ high] theorem errO_tag (e : Option EV) : (errO e).tagP = some none := by
  cases e with
  | none => rfl
  | some e => exact errAV_tag e
@[simp ↓ high] theorem ifNil_err (e : EV) : ifNil (errAV e) = some false := by cases e <;> rfl
theorem get_leaf {x : AV} (h : x.isAgg = false) (n : Nat) (ag : Bool) (off : Nat) : AV.get n ag x off = if off = 0 ∧ n = 1 ∧ ag = false then some x else none := by
  cases x with
  | agg l => simp [AV.isAgg] at h
  | _ => simp [AV.get]
theorem set_leaf {x : AV} (h : x.isAgg = false) (n : Nat) (y : AV) (off : Nat) : AV.set n y x off = if off = 0 ∧ n = 1 ∧ y.one = true then some y else none := by
  cases x with
  | agg l => simp [AV.isAgg] at h
  | _ => simp [AV.set]
@[simp ↓ high] theorem errAV_get (e : EV) (n : Nat) (ag : Bool) (off : Nat) : AV.get n ag (errAV e) off = if off = 0 ∧ n = 1 ∧ ag = false then some (errAV e) else none := get_leaf (errAV_isAgg e) n ag off
@[simp ↓ high] theorem errO_get (e : Option EV) (n : Nat) (ag : Bool) (off : Nat) : AV.get n ag (errO e) off = if off = 0 ∧ n = 1 ∧ ag = false then some (errO e) else none := get_leaf (errO_isAgg e) n ag off
@[simp ↓ high] theorem errAV_set (e : EV) (n : Nat) (y : AV) (off : Nat) : AV.set n y (errAV e) off = if off = 0 ∧ n = 1 ∧ y.one = true then some y else none := set_leaf (errAV_isAgg e) n y off
@[simp ↓ high] theorem errO_set (e : Option EV) (n : Nat) (y : AV) (off : Nat) : AV.set n y (errO e) off = if off = 0 ∧ n = 1 ∧ y.one = true then some y else none := set_leaf (errO_isAgg e) n y off
theorem chain_of : ∀ (e : EV) {C : Cx} {v : Value}, RV C (errAV e) v → Errs.Chain C.W v e
  | .code c, C, v, h => by
    cases h with
    | ifc h => rw [RV.raw_eq h]; exact .code c
  | .need lo hi, C, v, h => by
    cases h with
    | ifc h =>
      cases h with
      | agg h =>
        cases h with
        | cons h1 h2 =>
          cases h2 with
          | cons h2 h3 =>
            cases h3
            cases h1 with
            | one h1 _ =>
              cases h2 with
              | one h2 _ =>
                rw [RV.raw_eq h1, RV.raw_eq h2]; exact .need lo hi
  | .wrap p e, C, v, h => by
    cases h with
    | ifc h =>
      cases h with
      | fp h hF hr =>
        cases h with
        | one h h1 => simp [AV.one] at h1
        | agg h =>
          cases h with
          | cons h1 h2 =>
            cases h2 with
            | cons h2 h3 =>
              cases h3
              cases h1 with
              | one h1 _ =>
                obtain ⟨v', rfl, h2v⟩ := h2.val.2 (errAV_isAgg e)
                rw [RV.raw_eq h1] at hr
                refine .wrap _ _ p _ e ?_ ?_ (chain_of e (h2v.up (bare_up C)))
                · exact hr 0 _ rfl
                · exact hr 1 _ rfl
/-- A world that has grown. -/
theorem HOk.gr {C : Cx} {h : Hp} (hh : HOk C h) {W' : World} (g : Gr C.W W') : HOk { C with W := W' } h ∧ Ext C { C with W := W' } ∧ Up C { C with W := W' } := by
  have u : Up C { C with W := W' } := ⟨fun _ h => h, fun b hb => g.old b (hh.lt b hb), fun _ _ h => h⟩
  refine ⟨⟨fun id ob k => (hh.at_ id ob k).up u (fun b T _ hO _ => ⟨hO, g.old b (hh.olt b hO)⟩), hh.no, hh.inj, hh.apart, fun b hb => Nat.lt_of_lt_of_le (hh.lt b hb) g.size, fun b hb => Nat.lt_of_lt_of_le (hh.olt b hb) g.size, hh.gl.up u⟩,
    ⟨g.os, g.tape, g.output, g.size, fun _ h => h, fun b hb _ => g.old b hb, fun _ h => .inl h, fun _ h => .inl h, fun _ _ _ h => h⟩, u⟩
theorem HOk.hit {C : Cx} {X X' : AV} (hh : HOk C (setH noHeap 100000 (.box X))) {W' : World} {b T : Nat} {cs : Array Value} {ty : TypeId} (hι : C.ι 100000 = some (b, T)) (k : Hit C.W W' b cs ty) (hX : RC C.bare X' cs.toList) :
    HOk { C with W := W' } (setH noHeap 100000 (.box X')) ∧ Ext C { C with W := W' } ∧ Up C { C with W := W' } := by
  obtain ⟨W2, g, hp, hw⟩ := k
  obtain ⟨h1, e1, u1⟩ := hh.gr g
  have hs := h1.at_ 100000 (.box X) rfl
  obtain ⟨b', T', cs', t', k1, k2, k3, k4⟩ := hs
  have k1' : C.ι 100000 = some (b', T') := k1
  rw [hι] at k1'
  cases k1'
  have u0 := put_up h1 k2 hp
  have sat : Sat 0 { C with W := W2 } ⟨fun _ => .any, setH noHeap 100000 (.box X)⟩ { tmps := #[], defers := [] } := ⟨rfl, rfl, fun _ => .any _, h1⟩
  have s2 := upd_sat (ob' := .box X') sat rfl rfl hι k2 hp rfl ⟨b, T, cs, ty, hι, k2, hw, (hX.up ((u1.bare).trans u0.bare)).up (bare_up _)⟩
  refine ⟨?_, e1.trans (put_ext k2 hp), u1.trans u0⟩
  have e0 : setH (setH noHeap 100000 (.box X)) 100000 (.box X') = setH noHeap 100000 (.box X') := by
    funext i; simp only [setH]; split <;> rfl
  have := s2.heap
  rw [e0] at this
  exact this
theorem glob_at {C : Cx} {h : Hp} (hh : HOk C h) : C.W.cell? ⟨0, 0, none⟩ = some (Errs.rty 38) := (hh.gl _ (List.mem_cons_self)).2
theorem box_at {C : Cx} {X : AV} (hh : HOk C (setH noHeap 100000 (.box X))) : ∃ b T cs ty, C.ι 100000 = some (b, T) ∧ C.W.heap[b]? = some (.cells cs ty (0, 0)) ∧ cs.size = X.size := by
  obtain ⟨b, T, cs, t, h1, h2, h3, h4⟩ := hh.at_ 100000 (.box X) rfl
  exact ⟨b, T, cs, t, h1, h3, by rw [← Array.length_toList]; exact h4.len⟩
theorem c_AsCode (e : EV) (x : Int) : CallD Tryd.prog 49 [errAV e, .ifc 82 (.ptr 100000 0)] (setH noHeap 100000 (.box (.raw (.int .i64 x)))) (.raw (.bool e.num.isSome)) (setH noHeap 100000 (.box (.raw (.int .i64 (e.num.getD x))))) := by
  intro C vs hC hvs
  obtain ⟨b, T, cs, ty, hι, hb, hn⟩ := box_at hC
  cases hvs with
  | cons h1 h2 =>
    cases h2 with
    | cons h2 h3 =>
      cases h3
      cases h2 with
      | ifc h2 =>
        cases h2 with
        | ptr h2 =>
          rw [hι] at h2; cases h2
          refine Calls.mono (Errs.As_code _ e (chain_of e h1) b cs ty hb hn (glob_at hC)) ?_
          rintro ev W' ⟨q1, q2⟩
          rw [Errs.EV.as_num] at q1 q2
          cases hk : e.num with
          | none =>
            obtain ⟨rfl, g⟩ := q1 (by rw [hk]; rfl)
            obtain ⟨k1, k2, k3⟩ := hC.gr g
            exact ⟨_, _, rfl, rfl, k2, k1, .raw _, fun _ _ h => h⟩
          | some c =>
            obtain ⟨rfl, g⟩ := q2 _ (by rw [hk]; rfl)
            obtain ⟨k1, k2, k3⟩ := hC.hit (X' := .raw (.int .i64 c)) hι g (.one (.raw _) rfl)
            exact ⟨_, _, rfl, rfl, k2, k1, .raw _, fun _ _ h => h⟩
/-- The first link, if it has a place. -/
def EV.link : EV → Option AV
  | .wrap p e => some (.fp (.agg [.raw (.string p), errAV e]))
  | _ => none
theorem c_AsFault (e : EV) (X : AV) (hX : X.size = 1) : CallD Tryd.prog 49 [errAV e, .ifc 87 (.ptr 100000 0)] (setH noHeap 100000 (.box X)) (.raw (.bool (EV.link e).isSome)) (setH noHeap 100000 (.box ((EV.link e).getD X))) := by
  intro C vs hC hvs
  obtain ⟨b, T, cs, ty, hι, hb, hn⟩ := box_at hC
  cases hvs with
  | cons h1 h2 =>
    cases h2 with
    | cons h2 h3 =>
      cases h3
      cases h2 with
      | ifc h2 =>
        cases h2 with
        | ptr h2 =>
          rw [hι] at h2; cases h2
          refine Calls.mono (Errs.As_wrap _ e (chain_of e h1) b cs ty hb (by rw [hn, hX]) (glob_at hC)) ?_
          rintro ev W' ⟨q1, q2⟩
          cases e with
          | code c =>
            obtain ⟨rfl, g⟩ := q1 rfl
            obtain ⟨k1, k2, k3⟩ := hC.gr g
            exact ⟨_, _, rfl, rfl, k2, k1, .raw _, fun _ _ h => h⟩
          | need lo hi =>
            obtain ⟨rfl, g⟩ := q1 rfl
            obtain ⟨k1, k2, k3⟩ := hC.gr g
            exact ⟨_, _, rfl, rfl, k2, k1, .raw _, fun _ _ h => h⟩
          | wrap p e =>
            cases h1 with
            | ifc h1 =>
              obtain ⟨rfl, g⟩ := q2 _ rfl
              obtain ⟨k1, k2, k3⟩ := hC.hit (X' := .fp (.agg [.raw (.string p), errAV e])) hι g (.one (h1.bare (by simp)) rfl)
              exact ⟨_, _, rfl, rfl, k2, k1, .raw _, fun _ _ h => h⟩
theorem c_AsNil (t : Nat) (X : AV) : CallD Tryd.prog 49 [.raw .nilIface, .ifc t (.ptr 100000 0)] (setH noHeap 100000 (.box X)) (.raw (.bool false)) (setH noHeap 100000 (.box X)) := by
  intro C vs hC hvs
  cases hvs with
  | cons h1 h2 =>
    cases h2 with
    | cons h2 h3 =>
      cases h3
      rw [RV.raw_eq h1]
      refine Calls.mono (Errs.As_nil _ _) ?_
      rintro ev W' ⟨rfl, rfl⟩
      exact ⟨_, C, rfl, rfl, .refl C, hC, .raw _, fun _ _ h => h⟩
end Go.Proofs.YtjbbnollidcagaaDoor.Asl

namespace Go.Proofs.YtjbbnollidcagaaDoor.Asl
open Go Go.RowKit
set_option linter.unusedVariables false
set_option linter.unusedSimpArgs false
def strs (ps : List ByteArray) : List AV := ps.map fun s => .raw (.string s)
@[simp] theorem strs_len (l : List ByteArray) : (strs l).length = l.length := by simp [strs]
@[simp] theorem strs_get (l : List ByteArray) (i : Nat) : (strs l)[i]? = (l[i]?).map fun p => AV.raw (.string p) := by simp [strs]
@[simp] theorem strs_noids (l : List ByteArray) : AV.noids (strs l) = true := by
  rw [AV.noids_iff]; intro x hx
  obtain ⟨n, _, rfl⟩ := List.mem_map.1 hx
  rfl
@[simp] theorem strs_rows (l : List ByteArray) : AV.rowsOfs (strs l) = [] := noid_rows.2 _ (strs_noids l)
@[simp] theorem strs_deeps (h : Hp) (l : List ByteArray) : AV.deeps h (strs l) = strs l := noid_deep.2 _ (strs_noids l) h
@[simp] theorem strs_withins (h : Hp) (l : List ByteArray) : AV.withins h (strs l) = true := (noid_withins h).2 _ (strs_noids l)
@[simp] theorem strs_rens (π : Nat → Nat) (l : List ByteArray) : AV.rens π (strs l) = strs l := noid_ren.2 _ (strs_noids l) π
@[simp] theorem strs_app1 (l : List ByteArray) (s : ByteArray) : strs l ++ [.raw (.string s)] = strs (l ++ [s]) := by simp [strs]
@[simp] theorem strs_nil : strs [] = [] := rfl
@[simp] theorem strs_cons (s : ByteArray) (l : List ByteArray) : strs (s :: l) = AV.raw (.string s) :: strs l := rfl
@[simp] theorem strs_take (l : List ByteArray) (n : Nat) : (strs l).take n = strs (l.take n) := by simp [strs, List.map_take]
@[simp] theorem strs_drop (l : List ByteArray) (n : Nat) : (strs l).drop n = strs (l.drop n) := by simp [strs, List.map_drop]
end Go.Proofs.YtjbbnollidcagaaDoor.Asl

namespace Go.Proofs.YtjbbnollidcagaaDoor.Asl
open Go Go.RowKit
set_option linter.unusedVariables false
set_option linter.unusedSimpArgs false
/-- A kind of values that lead to no object. -/
class FlatF {α : Type} (f : α → AV) : Prop where
  noid : ∀ x, (f x).noid = true
section
variable {α : Type} {f : α → AV} [hf : FlatF f]
@[simp] theorem map_noids (l : List α) : AV.noids (l.map f) = true := by
  rw [AV.noids_iff]; intro x hx
  obtain ⟨n, _, rfl⟩ := List.mem_map.1 hx
  exact hf.noid n
@[simp] theorem map_rows (l : List α) : AV.rowsOfs (l.map f) = [] := noid_rows.2 _ (map_noids l)
@[simp] theorem map_deeps (h : Hp) (l : List α) : AV.deeps h (l.map f) = l.map f := noid_deep.2 _ (map_noids l) h
@[simp] theorem map_withins (h : Hp) (l : List α) : AV.withins h (l.map f) = true := (noid_withins h).2 _ (map_noids l)
@[simp] theorem map_rens (π : Nat → Nat) (l : List α) : AV.rens π (l.map f) = l.map f := noid_ren.2 _ (map_noids l) π
theorem nds_app (a b : List AV) : AV.noids (a ++ b) = (AV.noids a && AV.noids b) := by
  induction a with
  | nil => rfl
  | cons x a ih => simp only [List.cons_append, AV.noids, ih, Bool.and_assoc]
theorem rws_app (a b : List AV) : AV.rowsOfs (a ++ b) = AV.rowsOfs a ++ AV.rowsOfs b := by
  induction a with
  | nil => rfl
  | cons x a ih => simp only [List.cons_append, AV.rowsOfs, ih, List.append_assoc]
theorem dps_app (h : Hp) (a b : List AV) : AV.deeps h (a ++ b) = AV.deeps h a ++ AV.deeps h b := by
  induction a with
  | nil => rfl
  | cons x a ih => simp only [List.cons_append, AV.deeps, ih]
theorem wth_app (h : Hp) (a b : List AV) : AV.withins h (a ++ b) = (AV.withins h a && AV.withins h b) := by
  induction a with
  | nil => rfl
  | cons x a ih => simp only [List.cons_append, AV.withins, ih, Bool.and_assoc]
theorem rns_app (π : Nat → Nat) (a b : List AV) : AV.rens π (a ++ b) = AV.rens π a ++ AV.rens π b := by
  induction a with
  | nil => rfl
  | cons x a ih => simp only [List.cons_append, AV.rens, ih]
@[simp] theorem mapp_noids (l : List α) (m : List AV) : AV.noids (l.map f ++ m) = AV.noids m := by rw [nds_app, map_noids, Bool.true_and]
@[simp] theorem mapp_rows (l : List α) (m : List AV) : AV.rowsOfs (l.map f ++ m) = AV.rowsOfs m := by rw [rws_app, map_rows, List.nil_append]
@[simp] theorem mapp_deeps (h : Hp) (l : List α) (m : List AV) : AV.deeps h (l.map f ++ m) = l.map f ++ AV.deeps h m := by rw [dps_app, map_deeps]
@[simp] theorem mapp_withins (h : Hp) (l : List α) (m : List AV) : AV.withins h (l.map f ++ m) = AV.withins h m := by rw [wth_app, map_withins, Bool.true_and]
@[simp] theorem mapp_rens (π : Nat → Nat) (l : List α) (m : List AV) : AV.rens π (l.map f ++ m) = l.map f ++ AV.rens π m := by rw [rns_app, map_rens]
end
end Go.Proofs.YtjbbnollidcagaaDoor.Asl

namespace Go.Proofs.YtjbbnollidcagaaDoor.Asl
open Go Go.RowKit
open Go.Proofs.YtjbbnollidcagaaDoor.Errs (EV)
set_option linter.unusedVariables false
set_option linter.unusedSimpArgs false
set_option maxRecDepth 100000
set_option maxHeartbeats 4000000
def ofE (c : Int) : Option EV := if c = 0 then none else some (.code c)
theorem c_FOf (c : Int) : CallD Tryd.prog 54 [.raw (.int .i64 c)] noHeap (errO (ofE c)) noHeap := by
  unfold ofE
  by_cases h : c = 0
  · subst h
    rw [if_pos rfl]
    refine calls_go (nt := 7) (rs := [.tmp 2]) Tryd.func54 rfl rfl rfl (by simp) (by intro id h; simp at h <;> omega) ?_; intro Q hQ hW
    repeat' (first
    | (with_reducible refine run_n ?_; with_reducible first | refine hK _ _ (by simp) ?_ | refine hK _ _ ?_; clear hK K)
    | (refine zzc ?_)
    | (with_reducible refine awp_regT (by kernel_rfl) ?_; intro K hK)
    | (with_reducible refine a_cond (ht := ?_) (hf := ?_) <;> intro hb <;> (try simp at hb) <;> (try contradiction) <;> (try subst hb) <;> (try omega))
    | (with_reducible first | refine a_move (hr:=?_) | refine a_assign (hr:=?_) | refine a_bin (hr:=?_) | refine a_makeIf (hr:=?_) | refine a_eqI (hr:=?_) | refine a_neI (hr:=?_) | refine a_eqB (hr:=?_) | refine a_eqS (hr:=?_))
    | fail)
    all_goals ((refine zzr hQ ?_))
    all_goals (exact Fin.drop (by simp; exact .r) (by simp))
  · rw [if_neg h]
    refine calls_go (nt := 7) (rs := [.tmp 2]) Tryd.func54 rfl rfl rfl (by simp) (by intro id h; simp at h <;> omega) ?_; intro Q hQ hW
    repeat' (first
    | (with_reducible refine run_n ?_; with_reducible first | refine hK _ _ (by simp) ?_ | refine hK _ _ ?_; clear hK K)
    | (refine zzc ?_)
    | (with_reducible refine awp_regT (by kernel_rfl) ?_; intro K hK)
    | (with_reducible refine a_cond (ht := ?_) (hf := ?_) <;> intro hb <;> (try simp at hb) <;> (try contradiction) <;> (try subst hb) <;> (try omega))
    | (with_reducible first | refine a_move (hr:=?_) | refine a_assign (hr:=?_) | refine a_bin (hr:=?_) | refine a_makeIf (hr:=?_) | refine a_eqI (hr:=?_) | refine a_neI (hr:=?_) | refine a_eqB (hr:=?_) | refine a_eqS (hr:=?_))
    | fail)
    all_goals ((refine zzr hQ ?_))
    all_goals (exact Fin.drop (by simp; exact .r) (by simp))
theorem c_FWrap (p : ByteArray) (e : Option EV) : CallD Tryd.prog 76 [.raw (.string p), errO e] noHeap (errO (e.map (.wrap p))) noHeap := by
  cases e with
  | none =>
    refine calls_go (nt := 12) (rs := [.tmp 4]) Tryd.func76 rfl rfl rfl (by simp) (by intro id h; simp at h <;> omega) ?_; intro Q hQ hW
    repeat' (first
    | (with_reducible refine run_n ?_; with_reducible first | refine hK _ _ (by simp) ?_ | refine hK _ _ ?_; clear hK K)
    | (refine zzc ?_)
    | (with_reducible refine awp_regT (by kernel_rfl) ?_; intro K hK)
    | (with_reducible refine a_cond (ht := ?_) (hf := ?_) <;> intro hb <;> (try simp at hb) <;> (try contradiction) <;> (try subst hb) <;> (try omega))
    | (with_reducible first | refine a_move (hr:=?_) | refine a_assign (hr:=?_) | refine a_bin (hr:=?_) | refine a_box (hr:=?_) | refine a_makeIf (hr:=?_) | refine a_eqI (hr:=?_) | refine a_neI (hr:=?_) | refine a_eqB (hr:=?_) | refine a_eqS (hr:=?_) | refine a_build (hr:=?_))
    | fail)
    all_goals ((refine zzr hQ ?_))
    all_goals (exact Fin.drop (by simp; exact .r) (by simp))
  | some e =>
    simp only [errO_some, Option.map_some]
    refine calls_go (nt := 12) (rs := [.tmp 4]) Tryd.func76 rfl rfl rfl (by simp) (by intro id h; simp at h <;> omega) ?_; intro Q hQ hW
    repeat' (first
    | (with_reducible refine run_n ?_; with_reducible first | refine hK _ _ (by simp) ?_ | refine hK _ _ ?_; clear hK K)
    | (refine zzc ?_)
    | (with_reducible refine awp_regT (by kernel_rfl) ?_; intro K hK)
    | (with_reducible refine a_cond (ht := ?_) (hf := ?_) <;> intro hb <;> (try simp at hb) <;> (try contradiction) <;> (try subst hb) <;> (try omega))
    | (with_reducible first | refine a_move (hr:=?_) | refine a_assign (hr:=?_) | refine a_bin (hr:=?_) | refine a_box (hr:=?_) | refine a_makeIf (hr:=?_) | refine a_eqI (hr:=?_) | refine a_neI (hr:=?_) | refine a_eqB (hr:=?_) | refine a_eqS (hr:=?_) | refine a_build (hr:=?_))
    | fail)
    (refine zzr hQ ?_)
    exact Fin.fzb (k := 10) (X := .agg [.raw (.string p), errAV e]) (by simp) (by simp) (by simp [errAV]; exact .r) (by simp [errAV]; exact .r) (by simp) (by decide)
def codeE : Option EV → Int
  | none => 0
  | some e => e.num.getD 20
theorem c_FCode (e : Option EV) : CallD Tryd.prog 19 [errO e] noHeap (.raw (.int .i64 (codeE e))) noHeap := by
  cases e with
  | none =>
    refine calls_go (nt := 10) (rs := [.tmp 2]) Tryd.func19 rfl rfl rfl (by simp) (by intro id h; simp at h <;> omega) ?_; intro Q hQ hW
    repeat' (first
    | (with_reducible refine run_n ?_; with_reducible first | refine hK _ _ (by simp) ?_ | refine hK _ _ ?_; clear hK K)
    | (refine zzc ?_)
    | (with_reducible refine awp_regT (by kernel_rfl) ?_; intro K hK)
    | (with_reducible refine a_cond (ht := ?_) (hf := ?_) <;> intro hb <;> (try simp at hb) <;> (try contradiction) <;> (try subst hb) <;> (try omega))
    | (with_reducible first | refine a_move (hr:=?_) | refine a_assign (hr:=?_) | refine a_load (hr:=?_) | refine a_bin (hr:=?_) | refine a_alloc (hr:=?_) | refine a_makeIf (hr:=?_) | refine a_eqI (hr:=?_) | refine a_neI (hr:=?_) | refine a_eqB (hr:=?_) | refine a_eqS (hr:=?_))
    | fail)
    all_goals ((refine zzr hQ ?_))
    all_goals (exact Fin.drop (by simp; exact .r) (by simp))
  | some e =>
    have ha := c_AsCode e 0
    simp only [errO_some, codeE]
    generalize e.num = n at ha ⊢
    cases n with
    | none =>
      refine calls_go (nt := 10) (rs := [.tmp 2]) Tryd.func19 rfl rfl rfl (by simp) (by intro id h; simp at h <;> omega) ?_; intro Q hQ hW
      repeat' (first
    | (with_reducible refine run_n ?_; with_reducible first | refine hK _ _ (by simp) ?_ | refine hK _ _ ?_; clear hK K)
    | (refine zzc ?_)
    | (with_reducible refine awp_regT (by kernel_rfl) ?_; intro K hK)
    | (with_reducible refine a_cond (ht := ?_) (hf := ?_) <;> intro hb <;> (try simp at hb) <;> (try contradiction) <;> (try subst hb) <;> (try omega))
    | (with_reducible first | refine a_move (hr:=?_) | refine a_assign (hr:=?_) | refine a_load (hr:=?_) | refine a_bin (hr:=?_) | refine a_alloc (hr:=?_) | refine a_makeIf (hr:=?_) | refine a_eqI (hr:=?_) | refine a_neI (hr:=?_) | refine a_eqB (hr:=?_) | refine a_eqS (hr:=?_) | refine a_callP (p := 3) (hcall := ha) (hr:=?_))
    | fail)
      all_goals ((refine zzr hQ ?_))
      all_goals (exact Fin.drop (by simp; exact .r) (by simp))
    | some c =>
      refine calls_go (nt := 10) (rs := [.tmp 2]) Tryd.func19 rfl rfl rfl (by simp) (by intro id h; simp at h <;> omega) ?_; intro Q hQ hW
      repeat' (first
    | (with_reducible refine run_n ?_; with_reducible first | refine hK _ _ (by simp) ?_ | refine hK _ _ ?_; clear hK K)
    | (refine zzc ?_)
    | (with_reducible refine awp_regT (by kernel_rfl) ?_; intro K hK)
    | (with_reducible refine a_cond (ht := ?_) (hf := ?_) <;> intro hb <;> (try simp at hb) <;> (try contradiction) <;> (try subst hb) <;> (try omega))
    | (with_reducible first | refine a_move (hr:=?_) | refine a_assign (hr:=?_) | refine a_load (hr:=?_) | refine a_bin (hr:=?_) | refine a_alloc (hr:=?_) | refine a_makeIf (hr:=?_) | refine a_eqI (hr:=?_) | refine a_neI (hr:=?_) | refine a_eqB (hr:=?_) | refine a_eqS (hr:=?_) | refine a_callP (p := 3) (hcall := ha) (hr:=?_))
    | fail)
      all_goals ((refine zzr hQ ?_))
      all_goals (exact Fin.drop (by simp; exact .r) (by simp))
/-- The places. -/
def placesE : EV → List ByteArray
  | .wrap p e => p :: placesE e
  | _ => []
def trailE : Option EV → List ByteArray
  | none => []
  | some e => placesE e
def fX : Option (ByteArray × EV) → AV
  | none => .raw (.pointer none)
  | some (p, e) => .fp (.agg [.raw (.string p), errAV e])
@[simp ↓ high] theorem fX_noid (x : Option (ByteArray × EV)) : (fX x).noid = true := by
  cases x with
  | none => rfl
  | some x => obtain ⟨p, e⟩ := x; simp [fX]
@[simp ↓ high] theorem fX_size (x : Option (ByteArray × EV)) : (fX x).size = 1 := by
  cases x with
  | none => rfl
  | some x => obtain ⟨p, e⟩ := x; simp [fX]
@[simp ↓ high] theorem fX_isAgg (x : Option (ByteArray × EV)) : (fX x).isAgg = false := by
  cases x with
  | none => rfl
  | some x => rfl
@[simp ↓ high] theorem fX_get (e : Option (ByteArray × EV)) (n : Nat) (ag : Bool) (off : Nat) : AV.get n ag (fX e) off = if off = 0 ∧ n = 1 ∧ ag = false then some (fX e) else none := get_leaf (fX_isAgg e) n ag off
@[simp ↓ high] theorem fX_set (e : Option (ByteArray × EV)) (n : Nat) (y : AV) (off : Nat) : AV.set n y (fX e) off = if off = 0 ∧ n = 1 ∧ y.one = true then some y else none := set_leaf (fX_isAgg e) n y off
@[simp] theorem fX_none : fX none = .raw (.pointer none) := rfl
@[simp] theorem fX_some (p : ByteArray) (e : EV) : fX (some (p, e)) = .fp (.agg [.raw (.string p), errAV e]) := rfl
@[simp] theorem fX_deep (h : Hp) (x : Option (ByteArray × EV)) : (fX x).deep h = fX x := noid_deep.1 _ (fX_noid x) h
@[simp] theorem fX_within (h : Hp) (x : Option (ByteArray × EV)) : (fX x).within h = true := (noid_withins h).1 _ (fX_noid x)
@[simp] theorem fX_ren (π : Nat → Nat) (x : Option (ByteArray × EV)) : (fX x).ren π = fX x := noid_ren.1 _ (fX_noid x) π
def lenE : EV → Nat
  | .wrap _ e => lenE e + 1
  | _ => 0
@[simp] theorem strs_ne {l : List ByteArray} : strs l = [] ↔ l = [] := by simp [strs]
theorem c_FTrail (e : Option EV) (hl : (trailE e).length ≤ 1000000) : CallD Tryd.prog 24 [errO e] noHeap (.sl 1 (strs (trailE e))) noHeap := by
  cases e with
  | none =>
    have ha := c_AsNil 58 (.raw (.pointer none))
    refine calls_go (nt := 28) (rs := [.tmp 2]) Tryd.func24 rfl rfl rfl (by simp) (by intro id h; simp at h <;> omega) ?_; intro Q hQ hW
    repeat' (first
    | (with_reducible refine run_n ?_; with_reducible first | refine hK _ _ (by simp) ?_ | refine hK _ _ ?_; clear hK K)
    | (refine zzc ?_)
    | (with_reducible refine awp_regT (by kernel_rfl) ?_; intro K hK)
    | (with_reducible refine a_cond (ht := ?_) (hf := ?_) <;> intro hb <;> (try simp at hb) <;> (try contradiction) <;> (try subst hb) <;> (try omega))
    | (with_reducible first | refine a_move (hr:=?_) | refine a_assign (hr:=?_) | refine a_load (hr:=?_) | refine a_fieldAddr (hr:=?_) | refine a_nilCheck (hr:=?_) | refine a_bin (hr:=?_) | refine a_pick (hr:=?_) | refine a_alloc (hr:=?_) | refine a_makeIf (hr:=?_) | refine a_eqI (hr:=?_) | refine a_neI (hr:=?_) | refine a_eqP (hr:=?_) | refine a_neP (hr:=?_) | refine a_neB (hr:=?_) | refine a_neS (hr:=?_) | refine a_buildSlice (hr:=?_) | refine a_append (hr:=?_) | refine a_append0 (hr:=?_) | refine a_appendX (hr:=?_) | refine a_gT (hr:=?_) | refine a_gF (hr:=?_) | refine a_gU (hr:=?_))
    | (with_reducible refine a_gB (hT := ?_) (hF := ?_) <;> intro hb <;> (try simp at hb) <;> (try contradiction) <;> (try subst hb) <;> (try omega))
    | fail)
    refine awp_inv (α := Unit) (fun _ => [(0, .raw .nilIface), (3, .raw (.slice none 0 0)), (4, .ptr 4 0)]) (fun _ => hpL [(4, .box (.raw (.pointer none)))]) (fun _ => True) (fun _ => 0) () trivial (zzw) ?_
    intro _ _
    repeat' (first
    | (with_reducible refine run_n ?_; with_reducible first | refine hK _ _ (by simp) ?_ | refine hK _ _ ?_; clear hK K)
    | (refine zzc ?_)
    | (with_reducible refine awp_regT (by kernel_rfl) ?_; intro K hK)
    | (with_reducible refine a_cond (ht := ?_) (hf := ?_) <;> intro hb <;> (try simp at hb) <;> (try contradiction) <;> (try subst hb) <;> (try omega))
    | (with_reducible first | refine a_move (hr:=?_) | refine a_assign (hr:=?_) | refine a_load (hr:=?_) | refine a_fieldAddr (hr:=?_) | refine a_nilCheck (hr:=?_) | refine a_bin (hr:=?_) | refine a_pick (hr:=?_) | refine a_alloc (hr:=?_) | refine a_makeIf (hr:=?_) | refine a_eqI (hr:=?_) | refine a_neI (hr:=?_) | refine a_eqP (hr:=?_) | refine a_neP (hr:=?_) | refine a_neB (hr:=?_) | refine a_neS (hr:=?_) | refine a_buildSlice (hr:=?_) | refine a_append (hr:=?_) | refine a_append0 (hr:=?_) | refine a_appendX (hr:=?_) | refine a_gT (hr:=?_) | refine a_gF (hr:=?_) | refine a_gU (hr:=?_))
    | (with_reducible refine a_gB (hT := ?_) (hF := ?_) <;> intro hb <;> (try simp at hb) <;> (try contradiction) <;> (try subst hb) <;> (try omega))
    | fail)
    (refine zzr hQ ?_)
    exact Fin.nil (by simp)
  | some e =>
    simp only [trailE] at hl ⊢
    simp only [errO_some]
    generalize hp : placesE e = ps at hl ⊢
    refine calls_go (nt := 28) (rs := [.tmp 2]) Tryd.func24 rfl rfl rfl (by simp) (by intro id h; simp at h <;> omega) ?_; intro Q hQ hW
    repeat' (first
    | (with_reducible refine run_n ?_; with_reducible first | refine hK _ _ (by simp) ?_ | refine hK _ _ ?_; clear hK K)
    | (refine zzc ?_)
    | (with_reducible refine awp_regT (by kernel_rfl) ?_; intro K hK)
    | (with_reducible refine a_cond (ht := ?_) (hf := ?_) <;> intro hb <;> (try simp at hb) <;> (try contradiction) <;> (try subst hb) <;> (try omega))
    | (with_reducible first | refine a_move (hr:=?_) | refine a_assign (hr:=?_) | refine a_load (hr:=?_) | refine a_fieldAddr (hr:=?_) | refine a_nilCheck (hr:=?_) | refine a_bin (hr:=?_) | refine a_pick (hr:=?_) | refine a_alloc (hr:=?_) | refine a_makeIf (hr:=?_) | refine a_eqI (hr:=?_) | refine a_neI (hr:=?_) | refine a_eqP (hr:=?_) | refine a_neP (hr:=?_) | refine a_neB (hr:=?_) | refine a_neS (hr:=?_) | refine a_buildSlice (hr:=?_) | refine a_append (hr:=?_) | refine a_append0 (hr:=?_) | refine a_appendX (hr:=?_) | refine a_gT (hr:=?_) | refine a_gF (hr:=?_) | refine a_gU (hr:=?_))
    | (with_reducible refine a_gB (hT := ?_) (hF := ?_) <;> intro hb <;> (try simp at hb) <;> (try contradiction) <;> (try subst hb) <;> (try omega))
    | fail)
    refine awp_inv (α := EV × List ByteArray × Option (ByteArray × EV)) (fun a => [(0, errAV a.1), (3, orow 60 1 (strs a.2.1)), (4, .ptr 4 0)]) (fun a => ohp 60 1 (strs a.2.1) (hpL [(4, .box (fX a.2.2))])) (fun a => a.2.1 ++ placesE a.1 = ps) (fun a => lenE a.1) (e, [], none) (by simpa using hp) (zzw) ?_
    rintro ⟨e1, l, x⟩ h1
    simp only at h1 ⊢
    have ha := c_AsFault e1 (fX x) (by simp)
    cases e1 with
    | code c =>
      simp only [EV.link, Option.isSome, Option.getD_none, placesE, List.append_nil] at ha h1
      subst h1
      by_cases hl0 : l = []
      · subst hl0
        repeat' (first
    | (with_reducible refine run_n ?_; with_reducible first | refine hK _ _ (by simp) ?_ | refine hK _ _ ?_; clear hK K)
    | (refine zzc ?_)
    | (with_reducible refine awp_regT (by kernel_rfl) ?_; intro K hK)
    | (with_reducible refine a_cond (ht := ?_) (hf := ?_) <;> intro hb <;> (try simp at hb) <;> (try contradiction) <;> (try subst hb) <;> (try omega))
    | (with_reducible first | refine a_move (hr:=?_) | refine a_assign (hr:=?_) | refine a_load (hr:=?_) | refine a_fieldAddr (hr:=?_) | refine a_nilCheck (hr:=?_) | refine a_bin (hr:=?_) | refine a_pick (hr:=?_) | refine a_alloc (hr:=?_) | refine a_makeIf (hr:=?_) | refine a_eqI (hr:=?_) | refine a_neI (hr:=?_) | refine a_eqP (hr:=?_) | refine a_neP (hr:=?_) | refine a_neB (hr:=?_) | refine a_neS (hr:=?_) | refine a_buildSlice (hr:=?_) | refine a_append (hr:=?_) | refine a_append0 (hr:=?_) | refine a_appendX (hr:=?_) | refine a_callP (p := 4) (hcall := ha) (hr:=?_) | refine a_gT (hr:=?_) | refine a_gF (hr:=?_) | refine a_gU (hr:=?_))
    | (with_reducible refine a_gB (hT := ?_) (hF := ?_) <;> intro hb <;> (try simp at hb) <;> (try contradiction) <;> (try subst hb) <;> (try omega))
    | fail)
        (refine zzr hQ ?_)
        exact Fin.nil (by simp)
      · have h60 : orow 60 1 (strs l) = .ow 60 1 0 l.length := by rw [orow_ne (by simpa [strs] using hl0)]; simp
        repeat' (first
    | (with_reducible refine run_n ?_; with_reducible first | refine hK _ _ (by simp) ?_ | refine hK _ _ ?_; clear hK K)
    | (refine zzc ?_)
    | (with_reducible refine awp_regT (by kernel_rfl) ?_; intro K hK)
    | (with_reducible refine a_cond (ht := ?_) (hf := ?_) <;> intro hb <;> (try simp at hb) <;> (try contradiction) <;> (try subst hb) <;> (try omega))
    | (with_reducible first | refine a_move (hr:=?_) | refine a_assign (hr:=?_) | refine a_load (hr:=?_) | refine a_fieldAddr (hr:=?_) | refine a_nilCheck (hr:=?_) | refine a_bin (hr:=?_) | refine a_pick (hr:=?_) | refine a_alloc (hr:=?_) | refine a_makeIf (hr:=?_) | refine a_eqI (hr:=?_) | refine a_neI (hr:=?_) | refine a_eqP (hr:=?_) | refine a_neP (hr:=?_) | refine a_neB (hr:=?_) | refine a_neS (hr:=?_) | refine a_buildSlice (hr:=?_) | refine a_append (hr:=?_) | refine a_append0 (hr:=?_) | refine a_appendX (hr:=?_) | refine a_callP (p := 4) (hcall := ha) (hr:=?_) | refine a_gT (hr:=?_) | refine a_gF (hr:=?_) | refine a_gU (hr:=?_))
    | (with_reducible refine a_gB (hT := ?_) (hF := ?_) <;> intro hb <;> (try simp at hb) <;> (try contradiction) <;> (try subst hb) <;> (try omega))
    | fail)
        (refine zzr hQ ?_)
        rw [h60]
        exact Fin.frzR (by simp [hl0, strs_ne]; exact .r) (by simp [hl0, strs_ne, List.take_of_length_le]; exact .r) (by simp; exact .r) (by simp)
    | need lo hi =>
      simp only [EV.link, Option.isSome, Option.getD_none, placesE, List.append_nil] at ha h1
      subst h1
      by_cases hl0 : l = []
      · subst hl0
        repeat' (first
    | (with_reducible refine run_n ?_; with_reducible first | refine hK _ _ (by simp) ?_ | refine hK _ _ ?_; clear hK K)
    | (refine zzc ?_)
    | (with_reducible refine awp_regT (by kernel_rfl) ?_; intro K hK)
    | (with_reducible refine a_cond (ht := ?_) (hf := ?_) <;> intro hb <;> (try simp at hb) <;> (try contradiction) <;> (try subst hb) <;> (try omega))
    | (with_reducible first | refine a_move (hr:=?_) | refine a_assign (hr:=?_) | refine a_load (hr:=?_) | refine a_fieldAddr (hr:=?_) | refine a_nilCheck (hr:=?_) | refine a_bin (hr:=?_) | refine a_pick (hr:=?_) | refine a_alloc (hr:=?_) | refine a_makeIf (hr:=?_) | refine a_eqI (hr:=?_) | refine a_neI (hr:=?_) | refine a_eqP (hr:=?_) | refine a_neP (hr:=?_) | refine a_neB (hr:=?_) | refine a_neS (hr:=?_) | refine a_buildSlice (hr:=?_) | refine a_append (hr:=?_) | refine a_append0 (hr:=?_) | refine a_appendX (hr:=?_) | refine a_callP (p := 4) (hcall := ha) (hr:=?_) | refine a_gT (hr:=?_) | refine a_gF (hr:=?_) | refine a_gU (hr:=?_))
    | (with_reducible refine a_gB (hT := ?_) (hF := ?_) <;> intro hb <;> (try simp at hb) <;> (try contradiction) <;> (try subst hb) <;> (try omega))
    | fail)
        (refine zzr hQ ?_)
        exact Fin.nil (by simp)
      · have h60 : orow 60 1 (strs l) = .ow 60 1 0 l.length := by rw [orow_ne (by simpa [strs] using hl0)]; simp
        repeat' (first
    | (with_reducible refine run_n ?_; with_reducible first | refine hK _ _ (by simp) ?_ | refine hK _ _ ?_; clear hK K)
    | (refine zzc ?_)
    | (with_reducible refine awp_regT (by kernel_rfl) ?_; intro K hK)
    | (with_reducible refine a_cond (ht := ?_) (hf := ?_) <;> intro hb <;> (try simp at hb) <;> (try contradiction) <;> (try subst hb) <;> (try omega))
    | (with_reducible first | refine a_move (hr:=?_) | refine a_assign (hr:=?_) | refine a_load (hr:=?_) | refine a_fieldAddr (hr:=?_) | refine a_nilCheck (hr:=?_) | refine a_bin (hr:=?_) | refine a_pick (hr:=?_) | refine a_alloc (hr:=?_) | refine a_makeIf (hr:=?_) | refine a_eqI (hr:=?_) | refine a_neI (hr:=?_) | refine a_eqP (hr:=?_) | refine a_neP (hr:=?_) | refine a_neB (hr:=?_) | refine a_neS (hr:=?_) | refine a_buildSlice (hr:=?_) | refine a_append (hr:=?_) | refine a_append0 (hr:=?_) | refine a_appendX (hr:=?_) | refine a_callP (p := 4) (hcall := ha) (hr:=?_) | refine a_gT (hr:=?_) | refine a_gF (hr:=?_) | refine a_gU (hr:=?_))
    | (with_reducible refine a_gB (hT := ?_) (hF := ?_) <;> intro hb <;> (try simp at hb) <;> (try contradiction) <;> (try subst hb) <;> (try omega))
    | fail)
        (refine zzr hQ ?_)
        rw [h60]
        exact Fin.frzR (by simp [hl0, strs_ne]; exact .r) (by simp [hl0, strs_ne, List.take_of_length_le]; exact .r) (by simp; exact .r) (by simp)
    | wrap p e2 =>
      simp only [EV.link, Option.isSome, Option.getD_some, placesE] at ha h1
      have hll : l.length ≤ 1000000 := by rw [← h1] at hl; simp at hl; omega
      repeat' (first
    | (with_reducible refine run_n ?_; with_reducible first | refine hK _ _ (by simp) ?_ | refine hK _ _ ?_; clear hK K)
    | (refine zzc ?_)
    | (with_reducible refine awp_regT (by kernel_rfl) ?_; intro K hK)
    | (with_reducible refine a_cond (ht := ?_) (hf := ?_) <;> intro hb <;> (try simp at hb) <;> (try contradiction) <;> (try subst hb) <;> (try omega))
    | (with_reducible first | refine a_move (hr:=?_) | refine a_assign (hr:=?_) | refine a_load (hr:=?_) | refine a_fieldAddr (hr:=?_) | refine a_nilCheck (hr:=?_) | refine a_bin (hr:=?_) | refine a_pick (hr:=?_) | refine a_alloc (hr:=?_) | refine a_makeIf (hr:=?_) | refine a_eqI (hr:=?_) | refine a_neI (hr:=?_) | refine a_eqP (hr:=?_) | refine a_neP (hr:=?_) | refine a_neB (hr:=?_) | refine a_neS (hr:=?_) | refine a_buildSlice (hr:=?_) | refine a_append (hr:=?_) | refine a_append0 (hr:=?_) | refine a_appendX (hr:=?_) | refine a_callP (p := 4) (hcall := ha) (hr:=?_) | refine a_gT (hr:=?_) | refine a_gF (hr:=?_) | refine a_gU (hr:=?_))
    | (with_reducible refine a_gB (hT := ?_) (hF := ?_) <;> intro hb <;> (try simp at hb) <;> (try contradiction) <;> (try subst hb) <;> (try omega))
    | fail)
      exact ⟨(e2, l ++ [p], some (p, e2)), by simp [lenE], by simpa using h1, zzx 60 22⟩
end Go.Proofs.YtjbbnollidcagaaDoor.Asl

namespace Go.Proofs.YtjbbnollidcagaaDoor.Asl
open Go Go.RowKit
open Go.Proofs.YtjbbnollidcagaaDoor.Errs (EV)
set_option linter.unusedVariables false
set_option linter.unusedSimpArgs false
set_option maxRecDepth 100000
set_option maxHeartbeats 4000000
/-- A number that is not below 0, in digits. -/
def nat10 : Nat → Int → List Int
  | 0, _ => []
  | f + 1, n => if n < 10 then [48 + n] else nat10 f (n / 10) ++ [48 + n % 10]
def digs10 (n : Int) : List Int := if n < 0 then 45 :: nat10 20 (-n) else nat10 20 n
theorem nat10_fuel : ∀ (f : Nat) (n : Int), 0 ≤ n → n < 10 ^ (f + 1) → nat10 (f + 1) n = nat10 (f + 2) n
  | 0, n, h0, h1 => by
    have : n < 10 := by simpa using h1
    simp [nat10, this]
  | f + 1, n, h0, h1 => by
    by_cases h : n < 10
    · simp [nat10, h]
    · have h2 : n / 10 < 10 ^ (f + 1) := by
        rw [Int.pow_succ] at h1
        exact Int.ediv_lt_of_lt_mul (by decide) h1
      have ih := nat10_fuel f (n / 10) (by omega) h2
      rw [nat10, if_neg h, ih]
      conv => rhs; rw [nat10]
      rw [if_neg h]
theorem nat10_len : ∀ (f : Nat) (n : Int), (nat10 f n).length ≤ f
  | 0, _ => by simp [nat10]
  | f + 1, n => by
    have := nat10_len f (n / 10)
    simp only [nat10]; split <;> simp <;> omega
theorem nat10_isB : ∀ (f : Nat) (n : Int), 0 ≤ n → IsB (nat10 f n)
  | 0, _, _ => isB_nil
  | f + 1, n, h => by
    simp only [nat10]; split
    · exact isB_cons.2 ⟨by omega, isB_nil⟩
    · exact isB_app.2 ⟨nat10_isB f _ (by omega), isB_cons.2 ⟨by omega, isB_nil⟩⟩
theorem pow10 : (10 : Int) ^ 19 = 10000000000000000000 := by decide
/-- The array, filled from behind. -/
def fill (s : List Int) : List Int := List.replicate (20 - s.length) 0 ++ s
theorem fill_len {s : List Int} (h : s.length ≤ 20) : (fill s).length = 20 := by simp [fill]; omega
theorem fill_set {s : List Int} (h : s.length < 20) (x : Int) : (fill s).set (19 - s.length) x = fill (x :: s) := by
  have e1 : 20 - s.length = (19 - s.length) + 1 := by omega
  have e2 : 20 - (x :: s).length = 19 - s.length := by rw [List.length_cons]; omega
  unfold fill
  rw [e2, e1, List.replicate_succ', List.append_assoc]
  have h1 : (List.replicate (19 - s.length) (0 : Int)).length = 19 - s.length := by simp
  generalize List.replicate (19 - s.length) (0 : Int) = r at h1 ⊢
  rw [← h1, List.set_append_right _ _ (Nat.le_refl _)]; simp
theorem fill_drop {s : List Int} (h : s.length ≤ 20) : (fill s).drop (20 - s.length) = s := by
  unfold fill
  rw [List.drop_append_of_le_length (by simp)]; simp
end Go.Proofs.YtjbbnollidcagaaDoor.Asl

