/- errors.As and errors.Is by contracts. -/
import Derived.Test.YtngeckkebejhiaaDoorER
namespace Go.Proofs.YtngeckkebejhiaaDoor.Errs
open Go Go.RowKit Go.Extern.Stop Go.Stop Go.Extern
open Go.Proofs.YtngeckkebejhiaaDoor.Asl (Put NoFz run_storeVar Reads tyI tyI_agg tyI_size Cell)
set_option linter.unusedVariables false
set_option linter.unusedSimpArgs false
set_option linter.unnecessarySimpa false
theorem Gr.cell {W W' : World} (g : Gr W W') {a : Addr} {v : Value} (h : W.cell? a = some v) : W'.cell? a = some v := by
  have := g.old a.block (cell_lt h)
  unfold World.cell? at h ⊢
  rw [this]; exact h
theorem Gr.block {W W' : World} (g : Gr W W') {b : Nat} {ob : Obj} (h : W.heap[b]? = some ob) : W'.heap[b]? = some ob := by
  rw [g.old b (Array.getElem?_eq_some_iff.1 h).1]; exact h
theorem Chain.gr {W W' : World} (g : Gr W W') {E : Value} {e : EV} (h : Chain W E e) : Chain W' E e := by
  induction h with
  | code c => exact .code c
  | need lo hi => exact .need lo hi
  | wrap b o p E e h1 h2 h3 ih => exact .wrap b o p E e (g.cell h1) (g.cell h2) ih
  | bare b o p h1 h2 => exact .bare b o p (g.cell h1) (g.cell h2)
theorem Hit.gr {A B w' : World} {b : Nat} {cs : Array Value} {ty : TypeId} (g : Gr A B) (h : Hit B w' b cs ty) : Hit A w' b cs ty := by
  obtain ⟨W2, h1, h2, h3⟩ := h
  exact ⟨W2, g.trans h1, h2, h3⟩
theorem load_two (t : TypeId) (W : World) (b : Nat) (x y : Value) (ht : tyI Tryd.prog t = some (2, true)) (h0 : W.cell? ⟨b, 0, none⟩ = some x) (h1 : W.cell? ⟨b, 1, none⟩ = some y) : (loadVar t ⟨b, 0, none⟩).run Tryd.prog W = .ok (.agg #[x, y]) W := by
  have := Go.Proofs.YtngeckkebejhiaaDoor.Asl.run_loadCells (P := Tryd.prog) (W := W) (b := b) (o := 0) [x, y] 0 #[] (by
    intro i v hv
    match i, hv with
    | 0, hv => simp at hv; subst hv; exact h0
    | 1, hv => simp at hv; subst hv; exact h1)
  simp [loadVar, tyI_agg ht, tyI_size ht, loadCells]
  simp at this
  simp [this]
theorem load_one (t : TypeId) (W : World) (b : Nat) (x : Value) (ht : tyI Tryd.prog t = some (1, false)) (h0 : W.cell? ⟨b, 0, none⟩ = some x) : (loadVar t ⟨b, 0, none⟩).run Tryd.prog W = .ok x W := by
  simp [loadVar, tyI_agg ht, h0]
theorem cell_new (W : World) (cs : Array Value) (ty : TypeId) (i : Nat) (v : Value) (h : cs[i]? = some v) : (W.alloc (.cells cs ty)).cell? ⟨W.heap.size, i, none⟩ = some v := by
  rw [World.cell?_alloc_at _ _ _ _ (by simpa using (Array.getElem?_eq_some_iff.1 h).1)]
  exact h
theorem ty_code : tyI Tryd.prog 35 = some (1, false) := by kernel_rfl
set_option maxRecDepth 1000000 in
set_option maxHeartbeats 8000000 in
theorem as_code_c {W : World} (E : Value) (e : EV) (hch : Chain W E e) (tg : Value) (a : Addr) (b : Nat) (ha : W.cell? a = some (.pointer (some ⟨b, 0, none⟩))) (cs : Array Value) (ty : TypeId) (hb : W.heap[b]? = some (.cells cs ty (0, 0))) (hn : cs.size = 1) :
    Calls Tryd.prog 35 #[E, tg, .agg #[hnd 59, .pointer (some a), .int .u64 150], rty 35] W fun ev w' => (e.as_code = none → ev = .returned (.bool false) ∧ Gr W w') ∧ (∀ r, e.as_code = some r → ev = .returned (.bool true) ∧ Hit W w' b r ty) := by
  have hTO := @run_callFunc_extern Tryd.prog 36 _ ReflectliteType.typeOf Tryd.func36 (by kernel_rfl) (by kernel_rfl) (by kernel_rfl) (by kernel_rfl)
  have hAT := @run_callFunc_extern Tryd.prog 63 _ (ReflectliteType.relation "AssignableTo" ReflectliteType.assignableTo) Tryd.func63 (by kernel_rfl) (by kernel_rfl) (by kernel_rfl) (by kernel_rfl)
  have hEL := @run_callFunc_extern Tryd.prog 38 _ (ReflectliteValue.method (ReflectliteValue.valueError "reflectlite.Value.Elem" 0) ReflectliteValue.elem) Tryd.func38 (by kernel_rfl) (by kernel_rfl) (by kernel_rfl) (by kernel_rfl)
  have hVO := @run_callFunc_extern Tryd.prog 32 _ (fun args => ReflectliteValue.unpack (args.getD 0 (.tuple #[]))) Tryd.func32 (by kernel_rfl) (by kernel_rfl) (by kernel_rfl) (by kernel_rfl)
  have hST := @run_callFunc_extern Tryd.prog 39 _ ReflectliteValue.set Tryd.func39 (by kernel_rfl) (by kernel_rfl) (by kernel_rfl) (by kernel_rfl)
  have t1 := typeOf_code
  have t2 := typeOf_need
  have t3 := typeOf_wrap
  have mA := mAssignableTo
  have a1 := assign_code_code
  have a2 := assign_need_code
  have a3 := assign_wrap_code
  have n1 := no_code_As
  have n2 := no_code_Unwrap1
  have n3 := no_code_Unwrap2
  have n4 := no_need_As
  have n5 := no_need_Unwrap1
  have n6 := no_need_Unwrap2
  have n7 := no_wrap_As
  have n8 := has_wrap_Unwrap1
  have mU := mUnwrap
  have vO := valueOf_code
  have hE := elemV_code a ⟨b, 0, none⟩ (W.alloc (.cells #[hnd 59, .pointer (some a), .int .u64 150] 69)) (cell_alloc _ ha)
  have gr1 : Gr W (W.alloc (.cells #[hnd 59, .pointer (some a), .int .u64 150] 69)) := Gr.alloc _ _
  go_enter Tryd.func35, Tryd.ntmps35
  go_wp2
  go_loopw [0] (fun E' wl => wl = (W.alloc (.cells #[hnd 59, .pointer (some a), .int .u64 150] 69)) ∧ ∃ e', Chain wl E' e' ∧ e'.as_code = e.as_code) (fun E' wl => chainLen wl E')
  case atStart => exact ⟨rfl, e, hch.alloc _, rfl⟩
  case round =>
    obtain ⟨rfl, e', hc', hiff⟩ := hrel
    cases hc' with
    | code c =>
      have gr2 : Gr W ((W.alloc (.cells #[hnd 59, .pointer (some a), .int .u64 150] 69)).alloc (.cells #[.int .i64 c] 35)) := gr1.trans (Gr.alloc _ _)
      obtain ⟨c1, hc1⟩ : ∃ c1 : List Value, cs = c1.toArray := ⟨cs.toList, by simp⟩
      subst hc1
      have hb2 : ((W.alloc (.cells #[hnd 59, .pointer (some a), .int .u64 150] 69)).alloc (.cells #[.int .i64 c] 35)).heap[b]? = some (.cells (([] : List Value) ++ c1 ++ []).toArray ty (0, 0)) := by simpa using gr2.block hb
      obtain ⟨W3, hs, hp, hw⟩ := run_storeVar (P := Tryd.prog) (v := .int .i64 c) ty_code hb2 (by first | (intro i _ h; omega) | exact ⟨by intro i _ h; omega, by simp⟩) (by simpa using hn) (by simp [Value.cells]) (by intro x hx; simp [Value.cells] at hx; subst hx; exact ⟨by intros; simp, by intros; simp⟩)
      have hl := load_one 35 ((W.alloc (.cells #[hnd 59, .pointer (some a), .int .u64 150] 69)).alloc (.cells #[.int .i64 c] 35)) (W.alloc (.cells #[hnd 59, .pointer (some a), .int .u64 150] 69)).heap.size (.int .i64 c) ty_code (cell_new _ _ _ 0 _ rfl)
      have hS := set_code ⟨b, 0, none⟩ ⟨(W.alloc (.cells #[hnd 59, .pointer (some a), .int .u64 150] 69)).heap.size, 0, none⟩ (.int .i64 c) _ _ hl hs
      have hsz : (W.alloc (.cells #[hnd 59, .pointer (some a), .int .u64 150] 69)).heap.size = W.heap.size + 1 := by simp
      rw [hsz] at hS
      go_wp2
      go_ret
      exact ⟨fun h => by rw [← hiff] at h; simp [EV.as_code] at h, fun r h => by rw [← hiff] at h; simp [EV.as_code] at h; subst h; exact ⟨rfl, _, gr2, hp, by simpa [Value.cells] using hw⟩⟩
    | need lo hi =>
      go_wp2
      go_ret
      exact ⟨fun _ => ⟨rfl, gr1⟩, fun r h => by rw [← hiff] at h; simp [EV.as_code] at h⟩
    | wrap b0 o0 p E1 e1 h1 h2 h3 =>
      have hlen := chainLen_eq h3
      have hlen0 := chainLen_eq (Chain.wrap b0 o0 p E1 e1 h1 h2 h3)
      have hne : ∃ u v, E1 = .iface u v := by cases h3 <;> exact ⟨_, _, rfl⟩
      obtain ⟨u1, v1, rfl⟩ := hne
      have HC : Hid (Chain _ (.iface u1 v1) e1) := h3
      clear h3
      go_wp2
      refine ⟨⟨trivial, e1, HC.out, hiff⟩, ?_⟩
      show chainLen _ (.iface u1 v1) < _
      rw [hlen, hlen0]; simp [EV.len]
    | bare b0 o0 p h1 h2 =>
      go_wp2
      go_ret
      exact ⟨fun _ => ⟨rfl, gr1⟩, fun r h => by rw [← hiff] at h; simp [EV.as_code] at h⟩
theorem ty_need : tyI Tryd.prog 31 = some (2, true) := by kernel_rfl
set_option maxRecDepth 1000000 in
set_option maxHeartbeats 8000000 in
theorem as_need_c {W : World} (E : Value) (e : EV) (hch : Chain W E e) (tg : Value) (a : Addr) (b : Nat) (ha : W.cell? a = some (.pointer (some ⟨b, 0, none⟩))) (cs : Array Value) (ty : TypeId) (hb : W.heap[b]? = some (.cells cs ty (0, 0))) (hn : cs.size = 2) :
    Calls Tryd.prog 35 #[E, tg, .agg #[hnd 57, .pointer (some a), .int .u64 150], rty 31] W fun ev w' => (e.as_need = none → ev = .returned (.bool false) ∧ Gr W w') ∧ (∀ r, e.as_need = some r → ev = .returned (.bool true) ∧ Hit W w' b r ty) := by
  have hTO := @run_callFunc_extern Tryd.prog 36 _ ReflectliteType.typeOf Tryd.func36 (by kernel_rfl) (by kernel_rfl) (by kernel_rfl) (by kernel_rfl)
  have hAT := @run_callFunc_extern Tryd.prog 63 _ (ReflectliteType.relation "AssignableTo" ReflectliteType.assignableTo) Tryd.func63 (by kernel_rfl) (by kernel_rfl) (by kernel_rfl) (by kernel_rfl)
  have hEL := @run_callFunc_extern Tryd.prog 38 _ (ReflectliteValue.method (ReflectliteValue.valueError "reflectlite.Value.Elem" 0) ReflectliteValue.elem) Tryd.func38 (by kernel_rfl) (by kernel_rfl) (by kernel_rfl) (by kernel_rfl)
  have hVO := @run_callFunc_extern Tryd.prog 32 _ (fun args => ReflectliteValue.unpack (args.getD 0 (.tuple #[]))) Tryd.func32 (by kernel_rfl) (by kernel_rfl) (by kernel_rfl) (by kernel_rfl)
  have hST := @run_callFunc_extern Tryd.prog 39 _ ReflectliteValue.set Tryd.func39 (by kernel_rfl) (by kernel_rfl) (by kernel_rfl) (by kernel_rfl)
  have t1 := typeOf_code
  have t2 := typeOf_need
  have t3 := typeOf_wrap
  have mA := mAssignableTo
  have a1 := assign_code_need
  have a2 := assign_need_need
  have a3 := assign_wrap_need
  have n1 := no_code_As
  have n2 := no_code_Unwrap1
  have n3 := no_code_Unwrap2
  have n4 := no_need_As
  have n5 := no_need_Unwrap1
  have n6 := no_need_Unwrap2
  have n7 := no_wrap_As
  have n8 := has_wrap_Unwrap1
  have mU := mUnwrap
  have vO := valueOf_need
  have hE := elemV_need a ⟨b, 0, none⟩ (W.alloc (.cells #[hnd 57, .pointer (some a), .int .u64 150] 69)) (cell_alloc _ ha)
  have gr1 : Gr W (W.alloc (.cells #[hnd 57, .pointer (some a), .int .u64 150] 69)) := Gr.alloc _ _
  go_enter Tryd.func35, Tryd.ntmps35
  go_wp2
  go_loopw [0] (fun E' wl => wl = (W.alloc (.cells #[hnd 57, .pointer (some a), .int .u64 150] 69)) ∧ ∃ e', Chain wl E' e' ∧ e'.as_need = e.as_need) (fun E' wl => chainLen wl E')
  case atStart => exact ⟨rfl, e, hch.alloc _, rfl⟩
  case round =>
    obtain ⟨rfl, e', hc', hiff⟩ := hrel
    cases hc' with
    | code c =>
      go_wp2
      go_ret
      exact ⟨fun _ => ⟨rfl, gr1⟩, fun r h => by rw [← hiff] at h; simp [EV.as_need] at h⟩
    | need lo hi =>
      have gr2 : Gr W ((W.alloc (.cells #[hnd 57, .pointer (some a), .int .u64 150] 69)).alloc (.cells #[.string lo, .string hi] 31)) := gr1.trans (Gr.alloc _ _)
      obtain ⟨c1, hc1⟩ : ∃ c1 : List Value, cs = c1.toArray := ⟨cs.toList, by simp⟩
      subst hc1
      have hb2 : ((W.alloc (.cells #[hnd 57, .pointer (some a), .int .u64 150] 69)).alloc (.cells #[.string lo, .string hi] 31)).heap[b]? = some (.cells (([] : List Value) ++ c1 ++ []).toArray ty (0, 0)) := by simpa using gr2.block hb
      obtain ⟨W3, hs, hp, hw⟩ := run_storeVar (P := Tryd.prog) (v := .agg #[.string lo, .string hi]) ty_need hb2 (by first | (intro i _ h; omega) | exact ⟨by intro i _ h; omega, by simp⟩) (by simpa using hn) (by simp [Value.cells]) (by intro x hx; simp [Value.cells] at hx; rcases hx with rfl | rfl <;> exact ⟨by intros; simp, by intros; simp⟩)
      have hl := load_two 31 ((W.alloc (.cells #[hnd 57, .pointer (some a), .int .u64 150] 69)).alloc (.cells #[.string lo, .string hi] 31)) (W.alloc (.cells #[hnd 57, .pointer (some a), .int .u64 150] 69)).heap.size (.string lo) (.string hi) ty_need (cell_new _ _ _ 0 _ rfl) (cell_new _ _ _ 1 _ rfl)
      have hS := set_need ⟨b, 0, none⟩ ⟨(W.alloc (.cells #[hnd 57, .pointer (some a), .int .u64 150] 69)).heap.size, 0, none⟩ (.agg #[.string lo, .string hi]) _ _ hl hs
      have hsz : (W.alloc (.cells #[hnd 57, .pointer (some a), .int .u64 150] 69)).heap.size = W.heap.size + 1 := by simp
      rw [hsz] at hS
      go_wp2
      go_ret
      exact ⟨fun h => by rw [← hiff] at h; simp [EV.as_need] at h, fun r h => by rw [← hiff] at h; simp [EV.as_need] at h; subst h; exact ⟨rfl, _, gr2, hp, by simpa [Value.cells] using hw⟩⟩
    | wrap b0 o0 p E1 e1 h1 h2 h3 =>
      have hlen := chainLen_eq h3
      have hlen0 := chainLen_eq (Chain.wrap b0 o0 p E1 e1 h1 h2 h3)
      have hne : ∃ u v, E1 = .iface u v := by cases h3 <;> exact ⟨_, _, rfl⟩
      obtain ⟨u1, v1, rfl⟩ := hne
      have HC : Hid (Chain _ (.iface u1 v1) e1) := h3
      clear h3
      go_wp2
      refine ⟨⟨trivial, e1, HC.out, hiff⟩, ?_⟩
      show chainLen _ (.iface u1 v1) < _
      rw [hlen, hlen0]; simp [EV.len]
    | bare b0 o0 p h1 h2 =>
      go_wp2
      go_ret
      exact ⟨fun _ => ⟨rfl, gr1⟩, fun r h => by rw [← hiff] at h; simp [EV.as_need] at h⟩
theorem ty_wrap : tyI Tryd.prog 40 = some (1, false) := by kernel_rfl
set_option maxRecDepth 1000000 in
set_option maxHeartbeats 8000000 in
theorem as_wrap_c {W : World} (E : Value) (e : EV) (hch : Chain W E e) (tg : Value) (a : Addr) (b : Nat) (ha : W.cell? a = some (.pointer (some ⟨b, 0, none⟩))) (cs : Array Value) (ty : TypeId) (hb : W.heap[b]? = some (.cells cs ty (0, 0))) (hn : cs.size = 1) :
    Calls Tryd.prog 35 #[E, tg, .agg #[hnd 58, .pointer (some a), .int .u64 150], rty 40] W fun ev w' => ((as_wrap E e) = none → ev = .returned (.bool false) ∧ Gr W w') ∧ (∀ r, (as_wrap E e) = some r → ev = .returned (.bool true) ∧ Hit W w' b r ty) := by
  have hTO := @run_callFunc_extern Tryd.prog 36 _ ReflectliteType.typeOf Tryd.func36 (by kernel_rfl) (by kernel_rfl) (by kernel_rfl) (by kernel_rfl)
  have hAT := @run_callFunc_extern Tryd.prog 63 _ (ReflectliteType.relation "AssignableTo" ReflectliteType.assignableTo) Tryd.func63 (by kernel_rfl) (by kernel_rfl) (by kernel_rfl) (by kernel_rfl)
  have hEL := @run_callFunc_extern Tryd.prog 38 _ (ReflectliteValue.method (ReflectliteValue.valueError "reflectlite.Value.Elem" 0) ReflectliteValue.elem) Tryd.func38 (by kernel_rfl) (by kernel_rfl) (by kernel_rfl) (by kernel_rfl)
  have hVO := @run_callFunc_extern Tryd.prog 32 _ (fun args => ReflectliteValue.unpack (args.getD 0 (.tuple #[]))) Tryd.func32 (by kernel_rfl) (by kernel_rfl) (by kernel_rfl) (by kernel_rfl)
  have hST := @run_callFunc_extern Tryd.prog 39 _ ReflectliteValue.set Tryd.func39 (by kernel_rfl) (by kernel_rfl) (by kernel_rfl) (by kernel_rfl)
  have t1 := typeOf_code
  have t2 := typeOf_need
  have t3 := typeOf_wrap
  have mA := mAssignableTo
  have a1 := assign_code_wrap
  have a2 := assign_need_wrap
  have a3 := assign_wrap_wrap
  have n1 := no_code_As
  have n2 := no_code_Unwrap1
  have n3 := no_code_Unwrap2
  have n4 := no_need_As
  have n5 := no_need_Unwrap1
  have n6 := no_need_Unwrap2
  have n7 := no_wrap_As
  have n8 := has_wrap_Unwrap1
  have mU := mUnwrap
  have vO := valueOf_wrap
  have hE := elemV_wrap a ⟨b, 0, none⟩ (W.alloc (.cells #[hnd 58, .pointer (some a), .int .u64 150] 69)) (cell_alloc _ ha)
  have gr1 : Gr W (W.alloc (.cells #[hnd 58, .pointer (some a), .int .u64 150] 69)) := Gr.alloc _ _
  go_enter Tryd.func35, Tryd.ntmps35
  go_wp2
  go_loopw [0] (fun E' wl => wl = (W.alloc (.cells #[hnd 58, .pointer (some a), .int .u64 150] 69)) ∧ E' = E ∧ ∃ e', Chain wl E' e' ∧ e' = e) (fun E' wl => chainLen wl E')
  case atStart => exact ⟨rfl, rfl, e, hch.alloc _, rfl⟩
  case round =>
    obtain ⟨rfl, rfl, e', hc', rfl⟩ := hrel
    cases hc' with
    | code c =>
      go_wp2
      go_ret
      exact ⟨fun _ => ⟨rfl, gr1⟩, fun r h => by simp [as_wrap] at h⟩
    | need lo hi =>
      go_wp2
      go_ret
      exact ⟨fun _ => ⟨rfl, gr1⟩, fun r h => by simp [as_wrap] at h⟩
    | wrap b0 o0 p E1 e1 h1 h2 h3 =>
      have gr2 : Gr W ((W.alloc (.cells #[hnd 58, .pointer (some a), .int .u64 150] 69)).alloc (.cells #[.pointer (some ⟨b0, o0, none⟩)] 40)) := gr1.trans (Gr.alloc _ _)
      obtain ⟨c1, hc1⟩ : ∃ c1 : List Value, cs = c1.toArray := ⟨cs.toList, by simp⟩
      subst hc1
      have hb2 : ((W.alloc (.cells #[hnd 58, .pointer (some a), .int .u64 150] 69)).alloc (.cells #[.pointer (some ⟨b0, o0, none⟩)] 40)).heap[b]? = some (.cells (([] : List Value) ++ c1 ++ []).toArray ty (0, 0)) := by simpa using gr2.block hb
      obtain ⟨W3, hs, hp, hw⟩ := run_storeVar (P := Tryd.prog) (v := .pointer (some ⟨b0, o0, none⟩)) ty_wrap hb2 (by first | (intro i _ h; omega) | exact ⟨by intro i _ h; omega, by simp⟩) (by simpa using hn) (by simp [Value.cells]) (by intro x hx; simp [Value.cells] at hx; subst hx; exact ⟨by intros; simp, by intros; simp⟩)
      have hl := load_one 40 ((W.alloc (.cells #[hnd 58, .pointer (some a), .int .u64 150] 69)).alloc (.cells #[.pointer (some ⟨b0, o0, none⟩)] 40)) (W.alloc (.cells #[hnd 58, .pointer (some a), .int .u64 150] 69)).heap.size (.pointer (some ⟨b0, o0, none⟩)) ty_wrap (cell_new _ _ _ 0 _ rfl)
      have hS := set_wrap ⟨b, 0, none⟩ ⟨(W.alloc (.cells #[hnd 58, .pointer (some a), .int .u64 150] 69)).heap.size, 0, none⟩ (.pointer (some ⟨b0, o0, none⟩)) _ _ hl hs
      have hsz : (W.alloc (.cells #[hnd 58, .pointer (some a), .int .u64 150] 69)).heap.size = W.heap.size + 1 := by simp
      rw [hsz] at hS
      go_wp2
      go_ret
      exact ⟨fun h => by simp [as_wrap] at h, fun r h => by simp [as_wrap] at h; subst h; exact ⟨rfl, _, gr2, hp, by simpa [Value.cells] using hw⟩⟩
    | bare b0 o0 p h1 h2 =>
      have gr2 : Gr W ((W.alloc (.cells #[hnd 58, .pointer (some a), .int .u64 150] 69)).alloc (.cells #[.pointer (some ⟨b0, o0, none⟩)] 40)) := gr1.trans (Gr.alloc _ _)
      obtain ⟨c1, hc1⟩ : ∃ c1 : List Value, cs = c1.toArray := ⟨cs.toList, by simp⟩
      subst hc1
      have hb2 : ((W.alloc (.cells #[hnd 58, .pointer (some a), .int .u64 150] 69)).alloc (.cells #[.pointer (some ⟨b0, o0, none⟩)] 40)).heap[b]? = some (.cells (([] : List Value) ++ c1 ++ []).toArray ty (0, 0)) := by simpa using gr2.block hb
      obtain ⟨W3, hs, hp, hw⟩ := run_storeVar (P := Tryd.prog) (v := .pointer (some ⟨b0, o0, none⟩)) ty_wrap hb2 (by first | (intro i _ h; omega) | exact ⟨by intro i _ h; omega, by simp⟩) (by simpa using hn) (by simp [Value.cells]) (by intro x hx; simp [Value.cells] at hx; subst hx; exact ⟨by intros; simp, by intros; simp⟩)
      have hl := load_one 40 ((W.alloc (.cells #[hnd 58, .pointer (some a), .int .u64 150] 69)).alloc (.cells #[.pointer (some ⟨b0, o0, none⟩)] 40)) (W.alloc (.cells #[hnd 58, .pointer (some a), .int .u64 150] 69)).heap.size (.pointer (some ⟨b0, o0, none⟩)) ty_wrap (cell_new _ _ _ 0 _ rfl)
      have hS := set_wrap ⟨b, 0, none⟩ ⟨(W.alloc (.cells #[hnd 58, .pointer (some a), .int .u64 150] 69)).heap.size, 0, none⟩ (.pointer (some ⟨b0, o0, none⟩)) _ _ hl hs
      have hsz : (W.alloc (.cells #[hnd 58, .pointer (some a), .int .u64 150] 69)).heap.size = W.heap.size + 1 := by simp
      rw [hsz] at hS
      go_wp2
      go_ret
      exact ⟨fun h => by simp [as_wrap] at h, fun r h => by simp [as_wrap] at h; subst h; exact ⟨rfl, _, gr2, hp, by simpa [Value.cells] using hw⟩⟩
set_option maxRecDepth 1000000 in
set_option maxHeartbeats 8000000 in
theorem As_code {W : World} (E : Value) (e : EV) (hch : Chain W E e) (b : Nat) (cs : Array Value) (ty : TypeId) (hb : W.heap[b]? = some (.cells cs ty (0, 0))) (hn : cs.size = 1) (hg : W.cell? ⟨0, 0, none⟩ = some (rty 27)) :
    Calls Tryd.prog 25 #[E, .iface 59 (.pointer (some ⟨b, 0, none⟩))] W fun ev w' => (e.as_code = none → ev = .returned (.bool false) ∧ Gr W w') ∧ (∀ r, e.as_code = some r → ev = .returned (.bool true) ∧ Hit W w' b r ty) := by
  have hVO := @run_callFunc_extern Tryd.prog 32 _ (fun args => ReflectliteValue.unpack (args.getD 0 (.tuple #[]))) Tryd.func32 (by kernel_rfl) (by kernel_rfl) (by kernel_rfl) (by kernel_rfl)
  have hTY := @run_callFunc_extern Tryd.prog 33 _ (ReflectliteValue.methodAny (ReflectliteValue.valueError "reflectlite.Value.Type" 0) (fun t _ _ _ => ReflectliteType.toType t)) Tryd.func33 (by kernel_rfl) (by kernel_rfl) (by kernel_rfl) (by kernel_rfl)
  have hIN := @run_callFunc_extern Tryd.prog 34 _ (ReflectliteValue.method (ReflectliteValue.valueError "reflectlite.Value.IsNil" 0) ReflectliteValue.isNil) Tryd.func34 (by kernel_rfl) (by kernel_rfl) (by kernel_rfl) (by kernel_rfl)
  have hKI := @run_callFunc_extern Tryd.prog 54 _ (ReflectliteType.abiMethod fun t => do pure (.int .u8 (← Rtype.kind t))) Tryd.func54 (by kernel_rfl) (by kernel_rfl) (by kernel_rfl) (by kernel_rfl)
  have hEL := @run_callFunc_extern Tryd.prog 65 _ (ReflectliteType.method ReflectliteType.elem) Tryd.func65 (by kernel_rfl) (by kernel_rfl) (by kernel_rfl) (by kernel_rfl)
  have hIM := @run_callFunc_extern Tryd.prog 66 _ (ReflectliteType.relation "Implements" ReflectliteType.implements_) Tryd.func66 (by kernel_rfl) (by kernel_rfl) (by kernel_rfl) (by kernel_rfl)
  have f6 := valueOfP_code
  have f7 := typeP_code
  have mK := mKind
  have mE := mElem
  have mI := mImplements
  have k1 := kindP_code
  have k2 := kindE_code
  have e1 := elemT_code
  have i1 := implements_code
  have n8 := isNil_code ⟨W.heap.size, 0, none⟩ ⟨b, 0, none⟩ ((W.alloc (.cells #[.pointer (some ⟨b, 0, none⟩)] 59)).alloc (.cells #[hnd 59, .pointer (some ⟨W.heap.size, 0, none⟩), .int .u64 150] 69)) (cell_alloc _ (cell_new _ _ _ 0 _ rfl))
  have hg2 : ((W.alloc (.cells #[.pointer (some ⟨b, 0, none⟩)] 59)).alloc (.cells #[hnd 59, .pointer (some ⟨W.heap.size, 0, none⟩), .int .u64 150] 69)).cell? ⟨0, 0, none⟩ = some (rty 27) := cell_alloc _ (cell_alloc _ hg)
  have gr2 : Gr W ((W.alloc (.cells #[.pointer (some ⟨b, 0, none⟩)] 59)).alloc (.cells #[hnd 59, .pointer (some ⟨W.heap.size, 0, none⟩), .int .u64 150] 69)) := (Gr.alloc _ _).trans (Gr.alloc _ _)
  have hb2 := gr2.block hb
  have hc2 := hch.gr gr2
  have ha2 : ((W.alloc (.cells #[.pointer (some ⟨b, 0, none⟩)] 59)).alloc (.cells #[hnd 59, .pointer (some ⟨W.heap.size, 0, none⟩), .int .u64 150] 69)).cell? ⟨W.heap.size, 0, none⟩ = some (.pointer (some ⟨b, 0, none⟩)) := cell_alloc _ (cell_new _ _ _ 0 _ rfl)
  have key := as_code_c E e hc2 (.iface 59 (.pointer (some ⟨b, 0, none⟩))) ⟨W.heap.size, 0, none⟩ b ha2 cs ty hb2 hn
  have hne : ∃ u v, E = .iface u v := by cases hch <;> exact ⟨_, _, rfl⟩
  obtain ⟨u0, v0, rfl⟩ := hne
  clear hch hc2 hb hb2
  cases hk : e.as_code with
  | none =>
    go_enter Tryd.func25, Tryd.ntmps25
    go_wp2_with (first | (go_at_call 35; refine key.mono ?_; rintro ev w' ⟨q1, q2⟩; obtain ⟨rfl, q3⟩ := q1 hk) | go_in)
    go_ret
    exact ⟨fun _ => ⟨rfl, gr2.trans q3⟩, fun r h => (by cases h)⟩
  | some r =>
    go_enter Tryd.func25, Tryd.ntmps25
    go_wp2_with (first | (go_at_call 35; refine key.mono ?_; rintro ev w' ⟨q1, q2⟩; obtain ⟨rfl, q3⟩ := q2 _ hk) | go_in)
    go_ret
    exact ⟨fun h => (by cases h), fun r h => (by cases h; exact ⟨rfl, q3.gr gr2⟩)⟩
set_option maxRecDepth 1000000 in
set_option maxHeartbeats 8000000 in
theorem As_need {W : World} (E : Value) (e : EV) (hch : Chain W E e) (b : Nat) (cs : Array Value) (ty : TypeId) (hb : W.heap[b]? = some (.cells cs ty (0, 0))) (hn : cs.size = 2) (hg : W.cell? ⟨0, 0, none⟩ = some (rty 27)) :
    Calls Tryd.prog 25 #[E, .iface 57 (.pointer (some ⟨b, 0, none⟩))] W fun ev w' => (e.as_need = none → ev = .returned (.bool false) ∧ Gr W w') ∧ (∀ r, e.as_need = some r → ev = .returned (.bool true) ∧ Hit W w' b r ty) := by
  have hVO := @run_callFunc_extern Tryd.prog 32 _ (fun args => ReflectliteValue.unpack (args.getD 0 (.tuple #[]))) Tryd.func32 (by kernel_rfl) (by kernel_rfl) (by kernel_rfl) (by kernel_rfl)
  have hTY := @run_callFunc_extern Tryd.prog 33 _ (ReflectliteValue.methodAny (ReflectliteValue.valueError "reflectlite.Value.Type" 0) (fun t _ _ _ => ReflectliteType.toType t)) Tryd.func33 (by kernel_rfl) (by kernel_rfl) (by kernel_rfl) (by kernel_rfl)
  have hIN := @run_callFunc_extern Tryd.prog 34 _ (ReflectliteValue.method (ReflectliteValue.valueError "reflectlite.Value.IsNil" 0) ReflectliteValue.isNil) Tryd.func34 (by kernel_rfl) (by kernel_rfl) (by kernel_rfl) (by kernel_rfl)
  have hKI := @run_callFunc_extern Tryd.prog 54 _ (ReflectliteType.abiMethod fun t => do pure (.int .u8 (← Rtype.kind t))) Tryd.func54 (by kernel_rfl) (by kernel_rfl) (by kernel_rfl) (by kernel_rfl)
  have hEL := @run_callFunc_extern Tryd.prog 65 _ (ReflectliteType.method ReflectliteType.elem) Tryd.func65 (by kernel_rfl) (by kernel_rfl) (by kernel_rfl) (by kernel_rfl)
  have hIM := @run_callFunc_extern Tryd.prog 66 _ (ReflectliteType.relation "Implements" ReflectliteType.implements_) Tryd.func66 (by kernel_rfl) (by kernel_rfl) (by kernel_rfl) (by kernel_rfl)
  have f6 := valueOfP_need
  have f7 := typeP_need
  have mK := mKind
  have mE := mElem
  have mI := mImplements
  have k1 := kindP_need
  have k2 := kindE_need
  have e1 := elemT_need
  have i1 := implements_need
  have n8 := isNil_need ⟨W.heap.size, 0, none⟩ ⟨b, 0, none⟩ ((W.alloc (.cells #[.pointer (some ⟨b, 0, none⟩)] 57)).alloc (.cells #[hnd 57, .pointer (some ⟨W.heap.size, 0, none⟩), .int .u64 150] 69)) (cell_alloc _ (cell_new _ _ _ 0 _ rfl))
  have hg2 : ((W.alloc (.cells #[.pointer (some ⟨b, 0, none⟩)] 57)).alloc (.cells #[hnd 57, .pointer (some ⟨W.heap.size, 0, none⟩), .int .u64 150] 69)).cell? ⟨0, 0, none⟩ = some (rty 27) := cell_alloc _ (cell_alloc _ hg)
  have gr2 : Gr W ((W.alloc (.cells #[.pointer (some ⟨b, 0, none⟩)] 57)).alloc (.cells #[hnd 57, .pointer (some ⟨W.heap.size, 0, none⟩), .int .u64 150] 69)) := (Gr.alloc _ _).trans (Gr.alloc _ _)
  have hb2 := gr2.block hb
  have hc2 := hch.gr gr2
  have ha2 : ((W.alloc (.cells #[.pointer (some ⟨b, 0, none⟩)] 57)).alloc (.cells #[hnd 57, .pointer (some ⟨W.heap.size, 0, none⟩), .int .u64 150] 69)).cell? ⟨W.heap.size, 0, none⟩ = some (.pointer (some ⟨b, 0, none⟩)) := cell_alloc _ (cell_new _ _ _ 0 _ rfl)
  have key := as_need_c E e hc2 (.iface 57 (.pointer (some ⟨b, 0, none⟩))) ⟨W.heap.size, 0, none⟩ b ha2 cs ty hb2 hn
  have hne : ∃ u v, E = .iface u v := by cases hch <;> exact ⟨_, _, rfl⟩
  obtain ⟨u0, v0, rfl⟩ := hne
  clear hch hc2 hb hb2
  cases hk : e.as_need with
  | none =>
    go_enter Tryd.func25, Tryd.ntmps25
    go_wp2_with (first | (go_at_call 35; refine key.mono ?_; rintro ev w' ⟨q1, q2⟩; obtain ⟨rfl, q3⟩ := q1 hk) | go_in)
    go_ret
    exact ⟨fun _ => ⟨rfl, gr2.trans q3⟩, fun r h => (by cases h)⟩
  | some r =>
    go_enter Tryd.func25, Tryd.ntmps25
    go_wp2_with (first | (go_at_call 35; refine key.mono ?_; rintro ev w' ⟨q1, q2⟩; obtain ⟨rfl, q3⟩ := q2 _ hk) | go_in)
    go_ret
    exact ⟨fun h => (by cases h), fun r h => (by cases h; exact ⟨rfl, q3.gr gr2⟩)⟩
set_option maxRecDepth 1000000 in
set_option maxHeartbeats 8000000 in
theorem As_wrap {W : World} (E : Value) (e : EV) (hch : Chain W E e) (b : Nat) (cs : Array Value) (ty : TypeId) (hb : W.heap[b]? = some (.cells cs ty (0, 0))) (hn : cs.size = 1) (hg : W.cell? ⟨0, 0, none⟩ = some (rty 27)) :
    Calls Tryd.prog 25 #[E, .iface 58 (.pointer (some ⟨b, 0, none⟩))] W fun ev w' => ((as_wrap E e) = none → ev = .returned (.bool false) ∧ Gr W w') ∧ (∀ r, (as_wrap E e) = some r → ev = .returned (.bool true) ∧ Hit W w' b r ty) := by
  have hVO := @run_callFunc_extern Tryd.prog 32 _ (fun args => ReflectliteValue.unpack (args.getD 0 (.tuple #[]))) Tryd.func32 (by kernel_rfl) (by kernel_rfl) (by kernel_rfl) (by kernel_rfl)
  have hTY := @run_callFunc_extern Tryd.prog 33 _ (ReflectliteValue.methodAny (ReflectliteValue.valueError "reflectlite.Value.Type" 0) (fun t _ _ _ => ReflectliteType.toType t)) Tryd.func33 (by kernel_rfl) (by kernel_rfl) (by kernel_rfl) (by kernel_rfl)
  have hIN := @run_callFunc_extern Tryd.prog 34 _ (ReflectliteValue.method (ReflectliteValue.valueError "reflectlite.Value.IsNil" 0) ReflectliteValue.isNil) Tryd.func34 (by kernel_rfl) (by kernel_rfl) (by kernel_rfl) (by kernel_rfl)
  have hKI := @run_callFunc_extern Tryd.prog 54 _ (ReflectliteType.abiMethod fun t => do pure (.int .u8 (← Rtype.kind t))) Tryd.func54 (by kernel_rfl) (by kernel_rfl) (by kernel_rfl) (by kernel_rfl)
  have hEL := @run_callFunc_extern Tryd.prog 65 _ (ReflectliteType.method ReflectliteType.elem) Tryd.func65 (by kernel_rfl) (by kernel_rfl) (by kernel_rfl) (by kernel_rfl)
  have hIM := @run_callFunc_extern Tryd.prog 66 _ (ReflectliteType.relation "Implements" ReflectliteType.implements_) Tryd.func66 (by kernel_rfl) (by kernel_rfl) (by kernel_rfl) (by kernel_rfl)
  have f6 := valueOfP_wrap
  have f7 := typeP_wrap
  have mK := mKind
  have mE := mElem
  have mI := mImplements
  have k1 := kindP_wrap
  have k2 := kindE_wrap
  have e1 := elemT_wrap
  have i1 := implements_wrap
  have n8 := isNil_wrap ⟨W.heap.size, 0, none⟩ ⟨b, 0, none⟩ ((W.alloc (.cells #[.pointer (some ⟨b, 0, none⟩)] 58)).alloc (.cells #[hnd 58, .pointer (some ⟨W.heap.size, 0, none⟩), .int .u64 150] 69)) (cell_alloc _ (cell_new _ _ _ 0 _ rfl))
  have hg2 : ((W.alloc (.cells #[.pointer (some ⟨b, 0, none⟩)] 58)).alloc (.cells #[hnd 58, .pointer (some ⟨W.heap.size, 0, none⟩), .int .u64 150] 69)).cell? ⟨0, 0, none⟩ = some (rty 27) := cell_alloc _ (cell_alloc _ hg)
  have gr2 : Gr W ((W.alloc (.cells #[.pointer (some ⟨b, 0, none⟩)] 58)).alloc (.cells #[hnd 58, .pointer (some ⟨W.heap.size, 0, none⟩), .int .u64 150] 69)) := (Gr.alloc _ _).trans (Gr.alloc _ _)
  have hb2 := gr2.block hb
  have hc2 := hch.gr gr2
  have ha2 : ((W.alloc (.cells #[.pointer (some ⟨b, 0, none⟩)] 58)).alloc (.cells #[hnd 58, .pointer (some ⟨W.heap.size, 0, none⟩), .int .u64 150] 69)).cell? ⟨W.heap.size, 0, none⟩ = some (.pointer (some ⟨b, 0, none⟩)) := cell_alloc _ (cell_new _ _ _ 0 _ rfl)
  have key := as_wrap_c E e hc2 (.iface 58 (.pointer (some ⟨b, 0, none⟩))) ⟨W.heap.size, 0, none⟩ b ha2 cs ty hb2 hn
  have hne : ∃ u v, E = .iface u v := by cases hch <;> exact ⟨_, _, rfl⟩
  obtain ⟨u0, v0, rfl⟩ := hne
  clear hch hc2 hb hb2
  cases hk : (as_wrap (.iface u0 v0) e) with
  | none =>
    go_enter Tryd.func25, Tryd.ntmps25
    go_wp2_with (first | (go_at_call 35; refine key.mono ?_; rintro ev w' ⟨q1, q2⟩; obtain ⟨rfl, q3⟩ := q1 hk) | go_in)
    go_ret
    exact ⟨fun _ => ⟨rfl, gr2.trans q3⟩, fun r h => (by cases h)⟩
  | some r =>
    go_enter Tryd.func25, Tryd.ntmps25
    go_wp2_with (first | (go_at_call 35; refine key.mono ?_; rintro ev w' ⟨q1, q2⟩; obtain ⟨rfl, q3⟩ := q2 _ hk) | go_in)
    go_ret
    exact ⟨fun h => (by cases h), fun r h => (by cases h; exact ⟨rfl, q3.gr gr2⟩)⟩
theorem As_nil (t : Value) (w : World) : Calls Tryd.prog 25 #[.nilIface, t] w fun e w' => e = .returned (.bool false) ∧ w' = w := by
  go_enter Tryd.func25, Tryd.ntmps25
  go_wp2
  go_ret
  exact ⟨rfl, rfl⟩
end Go.Proofs.YtngeckkebejhiaaDoor.Errs
