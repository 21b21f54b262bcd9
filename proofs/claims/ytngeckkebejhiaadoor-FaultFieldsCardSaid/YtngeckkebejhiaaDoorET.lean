/- errors.Is at a number. -/
import Derived.Test.YtngeckkebejhiaaDoorES
namespace Go.Proofs.YtngeckkebejhiaaDoor.Errs
open Go Go.RowKit Go.Extern.Stop Go.Stop Go.Extern
set_option linter.unusedVariables false
set_option linter.unusedSimpArgs false
theorem comparable_code' (w : World) : ((ReflectliteType.method fun t => do Rtype.noPackHeld "Comparable" t; (fun a => Value.bool a.comparable) <$> typeInfo t) #[.agg #[hnd 35]]).run Tryd.prog w = .ok (.bool true) w := by kernel_rfl
def EV.num : EV → Option Int
  | .code c => some c
  | .need _ _ => none
  | .wrap _ e => e.num
  | .bare _ => none
theorem EV.as_num : ∀ e : EV, e.as_code = e.num.map fun c => #[.int .i64 c]
  | .code _ => rfl
  | .need _ _ => rfl
  | .wrap _ e => by simp only [EV.as_code, EV.num]; exact e.as_num
  | .bare _ => rfl
theorem eql_code (x y : Int) (w : World) : (binOp .eql 27 (.iface 35 (.int .i64 x)) (.iface 35 (.int .i64 y))).run Tryd.prog w = .ok (.bool (decide (x = y))) w := by
  obtain ⟨i, hi, hcmp⟩ := Option.map_eq_some_iff.1 (show (Tryd.prog.info? 35).map (·.comparable) = some true by kernel_rfl)
  have h : ∀ d : Nat, (Op.equalIn (d + 2) 27 (.iface 35 (.int .i64 x)) (.iface 35 (.int .i64 y))).run Tryd.prog w = .ok (decide (x = y)) w := fun d => by
    simp [Op.equalIn, run_underlying Tryd.underlying27, run_underlying Tryd.underlying35, typeInfo, hi, hcmp]
    rfl
  simp only [binOp]
  simp [Op.equal, Op.maxDepth, h 9998]
set_option maxRecDepth 1000000 in
set_option maxHeartbeats 8000000 in
theorem is_code {W : World} (E : Value) (e : EV) (hch : Chain W E e) (c : Int) :
    Calls Tryd.prog 37 #[E, .iface 35 (.int .i64 c), .bool true] W fun ev w' => ev = .returned (.bool (decide (e.num = some c))) ∧ w' = W := by
  have n1 := no_code_Is
  have n2 := no_code_Unwrap1
  have n3 := no_code_Unwrap2
  have n4 := no_need_Is
  have n5 := no_need_Unwrap1
  have n6 := no_need_Unwrap2
  have n7 := no_wrap_Is
  have n8 := has_wrap_Unwrap1
  have mU := mUnwrap
  go_enter Tryd.func37, Tryd.ntmps37
  go_wp2
  go_loopw [0] (fun E' wl => wl = W ∧ ∃ e', Chain wl E' e' ∧ e'.num = e.num) (fun E' wl => chainLen wl E')
  case atStart => exact ⟨rfl, e, hch, rfl⟩
  case round =>
    obtain ⟨rfl, e', hc', hiff⟩ := hrel
    cases hc' with
    | code c' =>
      have hq := eql_code c' c wr
      by_cases hcc : c' = c
      · subst hcc
        rw [decide_eq_true rfl] at hq
        go_wp2
        go_ret
        exact ⟨by rw [← hiff]; simp [EV.num], rfl⟩
      · rw [decide_eq_false hcc] at hq
        go_wp2
        go_ret
        exact ⟨by rw [← hiff]; simp [EV.num, hcc], rfl⟩
    | need lo hi =>
      have hty := run_eql_iface_types (P := Tryd.prog) 31 35 (.agg #[.string lo, .string hi]) (.int .i64 c) Tryd.underlying27 (by decide) wr
      go_wp2
      go_ret
      exact ⟨by rw [← hiff]; simp [EV.num], rfl⟩
    | bare b0 o0 p h1 h2 =>
      have hty := run_eql_iface_types (P := Tryd.prog) 40 35 (.pointer (some ⟨b0, o0, none⟩)) (.int .i64 c) Tryd.underlying27 (by decide) wr
      go_wp2
      go_ret
      exact ⟨by rw [← hiff]; simp [EV.num], rfl⟩
    | wrap b0 o0 p E1 e1 h1 h2 h3 =>
      have hty := run_eql_iface_types (P := Tryd.prog) 40 35 (.pointer (some ⟨b0, o0, none⟩)) (.int .i64 c) Tryd.underlying27 (by decide) wr
      have hlen := chainLen_eq h3
      have hlen0 := chainLen_eq (Chain.wrap b0 o0 p E1 e1 h1 h2 h3)
      have hne : ∃ u v, E1 = .iface u v := by cases h3 <;> exact ⟨_, _, rfl⟩
      obtain ⟨u1, v1, rfl⟩ := hne
      have HC : Hid (Chain _ (.iface u1 v1) e1) := h3
      clear h3
      go_wp2
      go_roundw
      case rel => exact ⟨trivial, e1, HC.out, hiff⟩
      case measure =>
        show chainLen _ (.iface u1 v1) < _
        rw [hlen, hlen0]; simp [EV.len]
set_option maxRecDepth 1000000 in
set_option maxHeartbeats 8000000 in
theorem Is_code {W : World} (E : Value) (e : EV) (hch : Chain W E e) (c : Int) :
    Calls Tryd.prog 31 #[E, .iface 35 (.int .i64 c)] W fun ev w' => ev = .returned (.bool (decide (e.num = some c))) ∧ w' = W := by
  have hTO := @run_callFunc_extern Tryd.prog 36 _ ReflectliteType.typeOf Tryd.func36 (by kernel_rfl) (by kernel_rfl) (by kernel_rfl) (by kernel_rfl)
  have hCM := @run_callFunc_extern Tryd.prog 64 _ (ReflectliteType.method fun t => do Rtype.noPackHeld "Comparable" t; pure (.bool (← typeInfo t).comparable)) Tryd.func64 (by kernel_rfl) (by kernel_rfl) (by kernel_rfl) (by kernel_rfl)
  have t1 := typeOf_code
  have mC := mComparable
  have cc := comparable_code'
  have key := is_code E e hch c
  have hne : ∃ u v, E = .iface u v := by cases hch <;> exact ⟨_, _, rfl⟩
  obtain ⟨u0, v0, rfl⟩ := hne
  clear hch
  go_enter Tryd.func31, Tryd.ntmps31
  go_wp2_with (first | (go_at_call 37; refine key.mono ?_; rintro ev w' ⟨rfl, rfl⟩) | go_in)
  go_ret
  exact ⟨rfl, rfl⟩
end Go.Proofs.YtngeckkebejhiaaDoor.Errs
