/- Part 23 of what the row leans on: abstract values and states, their rules, and the contracts of the functions. -/
import Derived.Test.YtjbbnollidcagaaDoorZgc22
namespace Go.Proofs.YtjbbnollidcagaaDoor.Errs
open Go Go.RowKit Go.Extern.Stop Go.Stop Go.Extern
open Go.Proofs.YtjbbnollidcagaaDoor.Asl (Put NoFz run_storeVar Reads tyI tyI_agg tyI_size Cell)
set_option linter.unusedVariables false
set_option linter.unusedSimpArgs false
set_option linter.unnecessarySimpa false
theorem Gr.cell {W W' : World} (g : Gr W W') {a : Addr} {v : Value} (h : W.cell? a = some v) : W'.cell? a = some v := by
  have := g.old a.block (cell_lt h)
  unfold World.cell? at h ⊢
  rw [this]; exact h
theorem Gr.block {W W' : World} (g : Gr W W') {b : Nat} {ob : Obj} (h : W.heap[b]? = some ob) : W'.heap[b]? = some ob := by
  rw [g.old b (Array.getElem?_eq_some_iff.1 h).1]; exact h
theorem Chain.gr {W W' : World} (g : Gr W W') {E : Value} {e : EV} (h : Chain W E e) : Chain W' E e := by
  induction h with
  | code c => exact .code c
  | need lo hi => exact .need lo hi
  | wrap b o p E e h1 h2 h3 ih => exact .wrap b o p E e (g.cell h1) (g.cell h2) ih
theorem Hit.gr {A B w' : World} {b : Nat} {cs : Array Value} {ty : TypeId} (g : Gr A B) (h : Hit B w' b cs ty) : Hit A w' b cs ty := by
  obtain ⟨W2, h1, h2, h3⟩ := h
  exact ⟨W2, g.trans h1, h2, h3⟩
theorem load_two (t : TypeId) (W : World) (b : Nat) (x y : Value) (ht : tyI Tryd.prog t = some (2, true)) (h0 : W.cell? ⟨b, 0, none⟩ = some x) (h1 : W.cell? ⟨b, 1, none⟩ = some y) : (loadVar t ⟨b, 0, none⟩).run Tryd.prog W = .ok (.agg #[x, y]) W := by
  have := Go.Proofs.YtjbbnollidcagaaDoor.Asl.run_loadCells (P := Tryd.prog) (W := W) (b := b) (o := 0) [x, y] 0 #[] (by
    intro i v hv
    match i, hv with
    | 0, hv => simp at hv; subst hv; exact h0
    | 1, hv => simp at hv; subst hv; exact h1)
  simp [loadVar, tyI_agg ht, tyI_size ht, loadCells]
  simp at this
  simp [this]
theorem load_one (t : TypeId) (W : World) (b : Nat) (x : Value) (ht : tyI Tryd.prog t = some (1, false)) (h0 : W.cell? ⟨b, 0, none⟩ = some x) : (loadVar t ⟨b, 0, none⟩).run Tryd.prog W = .ok x W := by
  simp [loadVar, tyI_agg ht, h0]
theorem cell_new (W : World) (cs : Array Value) (ty : TypeId) (i : Nat) (v : Value) (h : cs[i]? = some v) : (W.alloc (.cells cs ty)).cell? ⟨W.heap.size, i, none⟩ = some v := by
  rw [World.cell?_alloc_at _ _ _ _ (by simpa using (Array.getElem?_eq_some_iff.1 h).1)]
  exact h
theorem ty_code : tyI Tryd.prog 25 = some (1, false) := by kernel_rfl
set_option maxRecDepth 1000000 in
set_option maxHeartbeats 8000000 in
theorem as_code_c {W : World} (E : Value) (e : EV) (hch : Chain W E e) (tg : Value) (a : Addr) (b : Nat) (ha : W.cell? a = some (.pointer (some ⟨b, 0, none⟩))) (cs : Array Value) (ty : TypeId) (hb : W.heap[b]? = some (.cells cs ty (0, 0))) (hn : cs.size = 1) :
    Calls Tryd.prog 74 #[E, tg, .agg #[hnd 82, .pointer (some a), .int .u64 150], rty 25] W fun ev w' => (e.as_code = none → ev = .returned (.bool false) ∧ Gr W w') ∧ (∀ r, e.as_code = some r → ev = .returned (.bool true) ∧ Hit W w' b r ty) := by
  have hTO := @run_callFunc_extern Tryd.prog 77 _ ReflectliteType.typeOf Tryd.func77 (by kernel_rfl) (by kernel_rfl) (by kernel_rfl) (by kernel_rfl)
  have hAT := @run_callFunc_extern Tryd.prog 127 _ (ReflectliteType.relation "AssignableTo" ReflectliteType.assignableTo) Tryd.func127 (by kernel_rfl) (by kernel_rfl) (by kernel_rfl) (by kernel_rfl)
  have hEL := @run_callFunc_extern Tryd.prog 83 _ (ReflectliteValue.method (ReflectliteValue.valueError "reflectlite.Value.Elem" 0) ReflectliteValue.elem) Tryd.func83 (by kernel_rfl) (by kernel_rfl) (by kernel_rfl) (by kernel_rfl)
  have hVO := @run_callFunc_extern Tryd.prog 71 _ (fun args => ReflectliteValue.unpack (args.getD 0 (.tuple #[]))) Tryd.func71 (by kernel_rfl) (by kernel_rfl) (by kernel_rfl) (by kernel_rfl)
  have hST := @run_callFunc_extern Tryd.prog 84 _ ReflectliteValue.set Tryd.func84 (by kernel_rfl) (by kernel_rfl) (by kernel_rfl) (by kernel_rfl)
  have t1 := typeOf_code
  have t2 := typeOf_need
  have t3 := typeOf_wrap
  have mA := mAssignableTo
  have a1 := assign_code_code
  have a2 := assign_need_code
  have a3 := assign_wrap_code
  have n1 := no_code_As
  have n2 := no_code_Unwrap1
  have n3 := no_code_Unwrap2
  have n4 := no_need_As
  have n5 := no_need_Unwrap1
  have n6 := no_need_Unwrap2
  have n7 := no_wrap_As
  have n8 := has_wrap_Unwrap1
  have mU := mUnwrap
  have vO := valueOf_code
  have hE := elemV_code a ⟨b, 0, none⟩ (W.alloc (.cells #[hnd 82, .pointer (some a), .int .u64 150] 110)) (cell_alloc _ ha)
  have gr1 : Gr W (W.alloc (.cells #[hnd 82, .pointer (some a), .int .u64 150] 110)) := Gr.alloc _ _
  go_enter Tryd.func74, Tryd.ntmps74
  go_wp2
  go_loopw [0] (fun E' wl => wl = (W.alloc (.cells #[hnd 82, .pointer (some a), .int .u64 150] 110)) ∧ ∃ e', Chain wl E' e' ∧ e'.as_code = e.as_code) (fun E' wl => chainLen wl E')
  case atStart => exact ⟨rfl, e, hch.alloc _, rfl⟩
  case round =>
    obtain ⟨rfl, e', hc', hiff⟩ := hrel
    cases hc' with
    | code c =>
      have gr2 : Gr W ((W.alloc (.cells #[hnd 82, .pointer (some a), .int .u64 150] 110)).alloc (.cells #[.int .i64 c] 25)) := gr1.trans (Gr.alloc _ _)
      obtain ⟨c1, hc1⟩ : ∃ c1 : List Value, cs = c1.toArray := ⟨cs.toList, by simp⟩
      subst hc1
      have hb2 : ((W.alloc (.cells #[hnd 82, .pointer (some a), .int .u64 150] 110)).alloc (.cells #[.int .i64 c] 25)).heap[b]? = some (.cells (([] : List Value) ++ c1 ++ []).toArray ty (0, 0)) := by simpa using gr2.block hb
      obtain ⟨W3, hs, hp, hw⟩ := run_storeVar (P := Tryd.prog) (v := .int .i64 c) ty_code hb2 (by intro i _ h; omega) (by simpa using hn) (by simp [Value.cells]) (by intro x hx; simp [Value.cells] at hx; subst hx; exact ⟨by intros; simp, by intros; simp⟩)
      have hl := load_one 25 ((W.alloc (.cells #[hnd 82, .pointer (some a), .int .u64 150] 110)).alloc (.cells #[.int .i64 c] 25)) (W.alloc (.cells #[hnd 82, .pointer (some a), .int .u64 150] 110)).heap.size (.int .i64 c) ty_code (cell_new _ _ _ 0 _ rfl)
      have hS := set_code ⟨b, 0, none⟩ ⟨(W.alloc (.cells #[hnd 82, .pointer (some a), .int .u64 150] 110)).heap.size, 0, none⟩ (.int .i64 c) _ _ hl hs
      have hsz : (W.alloc (.cells #[hnd 82, .pointer (some a), .int .u64 150] 110)).heap.size = W.heap.size + 1 := by simp
      rw [hsz] at hS
      go_wp2
      go_ret
      exact ⟨fun h => by rw [← hiff] at h; simp [EV.as_code] at h, fun r h => by rw [← hiff] at h; simp [EV.as_code] at h; subst h; exact ⟨rfl, _, gr2, hp, by simpa [Value.cells] using hw⟩⟩
    | need lo hi =>
      go_wp2
      go_ret
      exact ⟨fun _ => ⟨rfl, gr1⟩, fun r h => by rw [← hiff] at h; simp [EV.as_code] at h⟩
    | wrap b0 o0 p E1 e1 h1 h2 h3 =>
      have hlen := chainLen_eq h3
      have hlen0 := chainLen_eq (Chain.wrap b0 o0 p E1 e1 h1 h2 h3)
      have hne : ∃ u v, E1 = .iface u v := by cases h3 <;> exact ⟨_, _, rfl⟩
      obtain ⟨u1, v1, rfl⟩ := hne
      have HC : Hid (Chain _ (.iface u1 v1) e1) := h3
      clear h3
      go_wp2
      refine ⟨⟨trivial, e1, HC.out, hiff⟩, ?_⟩
      show chainLen _ (.iface u1 v1) < _
      rw [hlen, hlen0]; simp [EV.len]
theorem ty_need : tyI Tryd.prog 48 = some (2, true) := by kernel_rfl
set_option maxRecDepth 1000000 in
set_option maxHeartbeats 8000000 in
theorem as_need_c {W : World} (E : Value) (e : EV) (hch : Chain W E e) (tg : Value) (a : Addr) (b : Nat) (ha : W.cell? a = some (.pointer (some ⟨b, 0, none⟩))) (cs : Array Value) (ty : TypeId) (hb : W.heap[b]? = some (.cells cs ty (0, 0))) (hn : cs.size = 2) :
    Calls Tryd.prog 74 #[E, tg, .agg #[hnd 94, .pointer (some a), .int .u64 150], rty 48] W fun ev w' => (e.as_need = none → ev = .returned (.bool false) ∧ Gr W w') ∧ (∀ r, e.as_need = some r → ev = .returned (.bool true) ∧ Hit W w' b r ty) := by
  have hTO := @run_callFunc_extern Tryd.prog 77 _ ReflectliteType.typeOf Tryd.func77 (by kernel_rfl) (by kernel_rfl) (by kernel_rfl) (by kernel_rfl)
  have hAT := @run_callFunc_extern Tryd.prog 127 _ (ReflectliteType.relation "AssignableTo" ReflectliteType.assignableTo) Tryd.func127 (by kernel_rfl) (by kernel_rfl) (by kernel_rfl) (by kernel_rfl)
  have hEL := @run_callFunc_extern Tryd.prog 83 _ (ReflectliteValue.method (ReflectliteValue.valueError "reflectlite.Value.Elem" 0) ReflectliteValue.elem) Tryd.func83 (by kernel_rfl) (by kernel_rfl) (by kernel_rfl) (by kernel_rfl)
  have hVO := @run_callFunc_extern Tryd.prog 71 _ (fun args => ReflectliteValue.unpack (args.getD 0 (.tuple #[]))) Tryd.func71 (by kernel_rfl) (by kernel_rfl) (by kernel_rfl) (by kernel_rfl)
  have hST := @run_callFunc_extern Tryd.prog 84 _ ReflectliteValue.set Tryd.func84 (by kernel_rfl) (by kernel_rfl) (by kernel_rfl) (by kernel_rfl)
  have t1 := typeOf_code
  have t2 := typeOf_need
  have t3 := typeOf_wrap
  have mA := mAssignableTo
  have a1 := assign_code_need
  have a2 := assign_need_need
  have a3 := assign_wrap_need
  have n1 := no_code_As
  have n2 := no_code_Unwrap1
  have n3 := no_code_Unwrap2
  have n4 := no_need_As
  have n5 := no_need_Unwrap1
  have n6 := no_need_Unwrap2
  have n7 := no_wrap_As
  have n8 := has_wrap_Unwrap1
  have mU := mUnwrap
  have vO := valueOf_need
  have hE := elemV_need a ⟨b, 0, none⟩ (W.alloc (.cells #[hnd 94, .pointer (some a), .int .u64 150] 110)) (cell_alloc _ ha)
  have gr1 : Gr W (W.alloc (.cells #[hnd 94, .pointer (some a), .int .u64 150] 110)) := Gr.alloc _ _
  go_enter Tryd.func74, Tryd.ntmps74
  go_wp2
  go_loopw [0] (fun E' wl => wl = (W.alloc (.cells #[hnd 94, .pointer (some a), .int .u64 150] 110)) ∧ ∃ e', Chain wl E' e' ∧ e'.as_need = e.as_need) (fun E' wl => chainLen wl E')
  case atStart => exact ⟨rfl, e, hch.alloc _, rfl⟩
  case round =>
    obtain ⟨rfl, e', hc', hiff⟩ := hrel
    cases hc' with
    | code c =>
      go_wp2
      go_ret
      exact ⟨fun _ => ⟨rfl, gr1⟩, fun r h => by rw [← hiff] at h; simp [EV.as_need] at h⟩
    | need lo hi =>
      have gr2 : Gr W ((W.alloc (.cells #[hnd 94, .pointer (some a), .int .u64 150] 110)).alloc (.cells #[.string lo, .string hi] 48)) := gr1.trans (Gr.alloc _ _)
      obtain ⟨c1, hc1⟩ : ∃ c1 : List Value, cs = c1.toArray := ⟨cs.toList, by simp⟩
      subst hc1
      have hb2 : ((W.alloc (.cells #[hnd 94, .pointer (some a), .int .u64 150] 110)).alloc (.cells #[.string lo, .string hi] 48)).heap[b]? = some (.cells (([] : List Value) ++ c1 ++ []).toArray ty (0, 0)) := by simpa using gr2.block hb
      obtain ⟨W3, hs, hp, hw⟩ := run_storeVar (P := Tryd.prog) (v := .agg #[.string lo, .string hi]) ty_need hb2 (by intro i _ h; omega) (by simpa using hn) (by simp [Value.cells]) (by intro x hx; simp [Value.cells] at hx; rcases hx with rfl | rfl <;> exact ⟨by intros; simp, by intros; simp⟩)
      have hl := load_two 48 ((W.alloc (.cells #[hnd 94, .pointer (some a), .int .u64 150] 110)).alloc (.cells #[.string lo, .string hi] 48)) (W.alloc (.cells #[hnd 94, .pointer (some a), .int .u64 150] 110)).heap.size (.string lo) (.string hi) ty_need (cell_new _ _ _ 0 _ rfl) (cell_new _ _ _ 1 _ rfl)
      have hS := set_need ⟨b, 0, none⟩ ⟨(W.alloc (.cells #[hnd 94, .pointer (some a), .int .u64 150] 110)).heap.size, 0, none⟩ (.agg #[.string lo, .string hi]) _ _ hl hs
      have hsz : (W.alloc (.cells #[hnd 94, .pointer (some a), .int .u64 150] 110)).heap.size = W.heap.size + 1 := by simp
      rw [hsz] at hS
      go_wp2
      go_ret
      exact ⟨fun h => by rw [← hiff] at h; simp [EV.as_need] at h, fun r h => by rw [← hiff] at h; simp [EV.as_need] at h; subst h; exact ⟨rfl, _, gr2, hp, by simpa [Value.cells] using hw⟩⟩
    | wrap b0 o0 p E1 e1 h1 h2 h3 =>
      have hlen := chainLen_eq h3
      have hlen0 := chainLen_eq (Chain.wrap b0 o0 p E1 e1 h1 h2 h3)
      have hne : ∃ u v, E1 = .iface u v := by cases h3 <;> exact ⟨_, _, rfl⟩
      obtain ⟨u1, v1, rfl⟩ := hne
      have HC : Hid (Chain _ (.iface u1 v1) e1) := h3
      clear h3
      go_wp2
      refine ⟨⟨trivial, e1, HC.out, hiff⟩, ?_⟩
      show chainLen _ (.iface u1 v1) < _
      rw [hlen, hlen0]; simp [EV.len]
theorem ty_wrap : tyI Tryd.prog 86 = some (1, false) := by kernel_rfl
set_option maxRecDepth 1000000 in
set_option maxHeartbeats 8000000 in
theorem as_wrap_c {W : World} (E : Value) (e : EV) (hch : Chain W E e) (tg : Value) (a : Addr) (b : Nat) (ha : W.cell? a = some (.pointer (some ⟨b, 0, none⟩))) (cs : Array Value) (ty : TypeId) (hb : W.heap[b]? = some (.cells cs ty (0, 0))) (hn : cs.size = 1) :
    Calls Tryd.prog 74 #[E, tg, .agg #[hnd 87, .pointer (some a), .int .u64 150], rty 86] W fun ev w' => ((as_wrap E e) = none → ev = .returned (.bool false) ∧ Gr W w') ∧ (∀ r, (as_wrap E e) = some r → ev = .returned (.bool true) ∧ Hit W w' b r ty) := by
  have hTO := @run_callFunc_extern Tryd.prog 77 _ ReflectliteType.typeOf Tryd.func77 (by kernel_rfl) (by kernel_rfl) (by kernel_rfl) (by kernel_rfl)
  have hAT := @run_callFunc_extern Tryd.prog 127 _ (ReflectliteType.relation "AssignableTo" ReflectliteType.assignableTo) Tryd.func127 (by kernel_rfl) (by kernel_rfl) (by kernel_rfl) (by kernel_rfl)
  have hEL := @run_callFunc_extern Tryd.prog 83 _ (ReflectliteValue.method (ReflectliteValue.valueError "reflectlite.Value.Elem" 0) ReflectliteValue.elem) Tryd.func83 (by kernel_rfl) (by kernel_rfl) (by kernel_rfl) (by kernel_rfl)
  have hVO := @run_callFunc_extern Tryd.prog 71 _ (fun args => ReflectliteValue.unpack (args.getD 0 (.tuple #[]))) Tryd.func71 (by kernel_rfl) (by kernel_rfl) (by kernel_rfl) (by kernel_rfl)
  have hST := @run_callFunc_extern Tryd.prog 84 _ ReflectliteValue.set Tryd.func84 (by kernel_rfl) (by kernel_rfl) (by kernel_rfl) (by kernel_rfl)
  have t1 := typeOf_code
  have t2 := typeOf_need
  have t3 := typeOf_wrap
  have mA := mAssignableTo
  have a1 := assign_code_wrap
  have a2 := assign_need_wrap
  have a3 := assign_wrap_wrap
  have n1 := no_code_As
  have n2 := no_code_Unwrap1
  have n3 := no_code_Unwrap2
  have n4 := no_need_As
  have n5 := no_need_Unwrap1
  have n6 := no_need_Unwrap2
  have n7 := no_wrap_As
  have n8 := has_wrap_Unwrap1
  have mU := mUnwrap
  have vO := valueOf_wrap
  have hE := elemV_wrap a ⟨b, 0, none⟩ (W.alloc (.cells #[hnd 87, .pointer (some a), .int .u64 150] 110)) (cell_alloc _ ha)
  have gr1 : Gr W (W.alloc (.cells #[hnd 87, .pointer (some a), .int .u64 150] 110)) := Gr.alloc _ _
  go_enter Tryd.func74, Tryd.ntmps74
  go_wp2
  go_loopw [0] (fun E' wl => wl = (W.alloc (.cells #[hnd 87, .pointer (some a), .int .u64 150] 110)) ∧ E' = E ∧ ∃ e', Chain wl E' e' ∧ e' = e) (fun E' wl => chainLen wl E')
  case atStart => exact ⟨rfl, rfl, e, hch.alloc _, rfl⟩
  case round =>
    obtain ⟨rfl, rfl, e', hc', rfl⟩ := hrel
    cases hc' with
    | code c =>
      go_wp2
      go_ret
      exact ⟨fun _ => ⟨rfl, gr1⟩, fun r h => by simp [as_wrap] at h⟩
    | need lo hi =>
      go_wp2
      go_ret
      exact ⟨fun _ => ⟨rfl, gr1⟩, fun r h => by simp [as_wrap] at h⟩
    | wrap b0 o0 p E1 e1 h1 h2 h3 =>
      have gr2 : Gr W ((W.alloc (.cells #[hnd 87, .pointer (some a), .int .u64 150] 110)).alloc (.cells #[.pointer (some ⟨b0, o0, none⟩)] 86)) := gr1.trans (Gr.alloc _ _)
      obtain ⟨c1, hc1⟩ : ∃ c1 : List Value, cs = c1.toArray := ⟨cs.toList, by simp⟩
      subst hc1
      have hb2 : ((W.alloc (.cells #[hnd 87, .pointer (some a), .int .u64 150] 110)).alloc (.cells #[.pointer (some ⟨b0, o0, none⟩)] 86)).heap[b]? = some (.cells (([] : List Value) ++ c1 ++ []).toArray ty (0, 0)) := by simpa using gr2.block hb
      obtain ⟨W3, hs, hp, hw⟩ := run_storeVar (P := Tryd.prog) (v := .pointer (some ⟨b0, o0, none⟩)) ty_wrap hb2 (by intro i _ h; omega) (by simpa using hn) (by simp [Value.cells]) (by intro x hx; simp [Value.cells] at hx; subst hx; exact ⟨by intros; simp, by intros; simp⟩)
      have hl := load_one 86 ((W.alloc (.cells #[hnd 87, .pointer (some a), .int .u64 150] 110)).alloc (.cells #[.pointer (some ⟨b0, o0, none⟩)] 86)) (W.alloc (.cells #[hnd 87, .pointer (some a), .int .u64 150] 110)).heap.size (.pointer (some ⟨b0, o0, none⟩)) ty_wrap (cell_new _ _ _ 0 _ rfl)
      have hS := set_wrap ⟨b, 0, none⟩ ⟨(W.alloc (.cells #[hnd 87, .pointer (some a), .int .u64 150] 110)).heap.size, 0, none⟩ (.pointer (some ⟨b0, o0, none⟩)) _ _ hl hs
      have hsz : (W.alloc (.cells #[hnd 87, .pointer (some a), .int .u64 150] 110)).heap.size = W.heap.size + 1 := by simp
      rw [hsz] at hS
      go_wp2
      go_ret
      exact ⟨fun h => by simp [as_wrap] at h, fun r h => by simp [as_wrap] at h; subst h; exact ⟨rfl, _, gr2, hp, by simpa [Value.cells] using hw⟩⟩
set_option maxRecDepth 1000000 in
set_option maxHeartbeats 8000000 in
theorem As_code {W : World} (E : Value) (e : EV) (hch : Chain W E e) (b : Nat) (cs : Array Value) (ty : TypeId) (hb : W.heap[b]? = some (.cells cs ty (0, 0))) (hn : cs.size = 1) (hg : W.cell? ⟨0, 0, none⟩ = some (rty 38)) :
    Calls Tryd.prog 49 #[E, .iface 82 (.pointer (some ⟨b, 0, none⟩))] W fun ev w' => (e.as_code = none → ev = .returned (.bool false) ∧ Gr W w') ∧ (∀ r, e.as_code = some r → ev = .returned (.bool true) ∧ Hit W w' b r ty) := by
  have hVO := @run_callFunc_extern Tryd.prog 71 _ (fun args => ReflectliteValue.unpack (args.getD 0 (.tuple #[]))) Tryd.func71 (by kernel_rfl) (by kernel_rfl) (by kernel_rfl) (by kernel_rfl)
  have hTY := @run_callFunc_extern Tryd.prog 72 _ (ReflectliteValue.methodAny (ReflectliteValue.valueError "reflectlite.Value.Type" 0) (fun t _ _ _ => ReflectliteType.toType t)) Tryd.func72 (by kernel_rfl) (by kernel_rfl) (by kernel_rfl) (by kernel_rfl)
  have hIN := @run_callFunc_extern Tryd.prog 73 _ (ReflectliteValue.method (ReflectliteValue.valueError "reflectlite.Value.IsNil" 0) ReflectliteValue.isNil) Tryd.func73 (by kernel_rfl) (by kernel_rfl) (by kernel_rfl) (by kernel_rfl)
  have hKI := @run_callFunc_extern Tryd.prog 116 _ (ReflectliteType.abiMethod fun t => do pure (.int .u8 (← Rtype.kind t))) Tryd.func116 (by kernel_rfl) (by kernel_rfl) (by kernel_rfl) (by kernel_rfl)
  have hEL := @run_callFunc_extern Tryd.prog 129 _ (ReflectliteType.method ReflectliteType.elem) Tryd.func129 (by kernel_rfl) (by kernel_rfl) (by kernel_rfl) (by kernel_rfl)
  have hIM := @run_callFunc_extern Tryd.prog 130 _ (ReflectliteType.relation "Implements" ReflectliteType.implements_) Tryd.func130 (by kernel_rfl) (by kernel_rfl) (by kernel_rfl) (by kernel_rfl)
  have f6 := valueOfP_code
  have f7 := typeP_code
  have mK := mKind
  have mE := mElem
  have mI := mImplements
  have k1 := kindP_code
  have k2 := kindE_code
  have e1 := elemT_code
  have i1 := implements_code
  have n8 := isNil_code ⟨W.heap.size, 0, none⟩ ⟨b, 0, none⟩ ((W.alloc (.cells #[.pointer (some ⟨b, 0, none⟩)] 82)).alloc (.cells #[hnd 82, .pointer (some ⟨W.heap.size, 0, none⟩), .int .u64 150] 110)) (cell_alloc _ (cell_new _ _ _ 0 _ rfl))
  have hg2 : ((W.alloc (.cells #[.pointer (some ⟨b, 0, none⟩)] 82)).alloc (.cells #[hnd 82, .pointer (some ⟨W.heap.size, 0, none⟩), .int .u64 150] 110)).cell? ⟨0, 0, none⟩ = some (rty 38) := cell_alloc _ (cell_alloc _ hg)
  have gr2 : Gr W ((W.alloc (.cells #[.pointer (some ⟨b, 0, none⟩)] 82)).alloc (.cells #[hnd 82, .pointer (some ⟨W.heap.size, 0, none⟩), .int .u64 150] 110)) := (Gr.alloc _ _).trans (Gr.alloc _ _)
  have hb2 := gr2.block hb
  have hc2 := hch.gr gr2
  have ha2 : ((W.alloc (.cells #[.pointer (some ⟨b, 0, none⟩)] 82)).alloc (.cells #[hnd 82, .pointer (some ⟨W.heap.size, 0, none⟩), .int .u64 150] 110)).cell? ⟨W.heap.size, 0, none⟩ = some (.pointer (some ⟨b, 0, none⟩)) := cell_alloc _ (cell_new _ _ _ 0 _ rfl)
  have key := as_code_c E e hc2 (.iface 82 (.pointer (some ⟨b, 0, none⟩))) ⟨W.heap.size, 0, none⟩ b ha2 cs ty hb2 hn
  have hne : ∃ u v, E = .iface u v := by cases hch <;> exact ⟨_, _, rfl⟩
  obtain ⟨u0, v0, rfl⟩ := hne
  clear hch hc2 hb hb2
  cases hk : e.as_code with
  | none =>
    go_enter Tryd.func49, Tryd.ntmps49
    go_wp2_with (first | (go_at_call 74; refine key.mono ?_; rintro ev w' ⟨q1, q2⟩; obtain ⟨rfl, q3⟩ := q1 hk) | go_in)
    go_ret
    exact ⟨fun _ => ⟨rfl, gr2.trans q3⟩, fun r h => (by cases h)⟩
  | some r =>
    go_enter Tryd.func49, Tryd.ntmps49
    go_wp2_with (first | (go_at_call 74; refine key.mono ?_; rintro ev w' ⟨q1, q2⟩; obtain ⟨rfl, q3⟩ := q2 _ hk) | go_in)
    go_ret
    exact ⟨fun h => (by cases h), fun r h => (by cases h; exact ⟨rfl, q3.gr gr2⟩)⟩
set_option maxRecDepth 1000000 in
set_option maxHeartbeats 8000000 in
theorem As_need {W : World} (E : Value) (e : EV) (hch : Chain W E e) (b : Nat) (cs : Array Value) (ty : TypeId) (hb : W.heap[b]? = some (.cells cs ty (0, 0))) (hn : cs.size = 2) (hg : W.cell? ⟨0, 0, none⟩ = some (rty 38)) :
    Calls Tryd.prog 49 #[E, .iface 94 (.pointer (some ⟨b, 0, none⟩))] W fun ev w' => (e.as_need = none → ev = .returned (.bool false) ∧ Gr W w') ∧ (∀ r, e.as_need = some r → ev = .returned (.bool true) ∧ Hit W w' b r ty) := by
  have hVO := @run_callFunc_extern Tryd.prog 71 _ (fun args => ReflectliteValue.unpack (args.getD 0 (.tuple #[]))) Tryd.func71 (by kernel_rfl) (by kernel_rfl) (by kernel_rfl) (by kernel_rfl)
  have hTY := @run_callFunc_extern Tryd.prog 72 _ (ReflectliteValue.methodAny (ReflectliteValue.valueError "reflectlite.Value.Type" 0) (fun t _ _ _ => ReflectliteType.toType t)) Tryd.func72 (by kernel_rfl) (by kernel_rfl) (by kernel_rfl) (by kernel_rfl)
  have hIN := @run_callFunc_extern Tryd.prog 73 _ (ReflectliteValue.method (ReflectliteValue.valueError "reflectlite.Value.IsNil" 0) ReflectliteValue.isNil) Tryd.func73 (by kernel_rfl) (by kernel_rfl) (by kernel_rfl) (by kernel_rfl)
  have hKI := @run_callFunc_extern Tryd.prog 116 _ (ReflectliteType.abiMethod fun t => do pure (.int .u8 (← Rtype.kind t))) Tryd.func116 (by kernel_rfl) (by kernel_rfl) (by kernel_rfl) (by kernel_rfl)
  have hEL := @run_callFunc_extern Tryd.prog 129 _ (ReflectliteType.method ReflectliteType.elem) Tryd.func129 (by kernel_rfl) (by kernel_rfl) (by kernel_rfl) (by kernel_rfl)
  have hIM := @run_callFunc_extern Tryd.prog 130 _ (ReflectliteType.relation "Implements" ReflectliteType.implements_) Tryd.func130 (by kernel_rfl) (by kernel_rfl) (by kernel_rfl) (by kernel_rfl)
  have f6 := valueOfP_need
  have f7 := typeP_need
  have mK := mKind
  have mE := mElem
  have mI := mImplements
  have k1 := kindP_need
  have k2 := kindE_need
  have e1 := elemT_need
  have i1 := implements_need
  have n8 := isNil_need ⟨W.heap.size, 0, none⟩ ⟨b, 0, none⟩ ((W.alloc (.cells #[.pointer (some ⟨b, 0, none⟩)] 94)).alloc (.cells #[hnd 94, .pointer (some ⟨W.heap.size, 0, none⟩), .int .u64 150] 110)) (cell_alloc _ (cell_new _ _ _ 0 _ rfl))
  have hg2 : ((W.alloc (.cells #[.pointer (some ⟨b, 0, none⟩)] 94)).alloc (.cells #[hnd 94, .pointer (some ⟨W.heap.size, 0, none⟩), .int .u64 150] 110)).cell? ⟨0, 0, none⟩ = some (rty 38) := cell_alloc _ (cell_alloc _ hg)
  have gr2 : Gr W ((W.alloc (.cells #[.pointer (some ⟨b, 0, none⟩)] 94)).alloc (.cells #[hnd 94, .pointer (some ⟨W.heap.size, 0, none⟩), .int .u64 150] 110)) := (Gr.alloc _ _).trans (Gr.alloc _ _)
  have hb2 := gr2.block hb
  have hc2 := hch.gr gr2
  have ha2 : ((W.alloc (.cells #[.pointer (some ⟨b, 0, none⟩)] 94)).alloc (.cells #[hnd 94, .pointer (some ⟨W.heap.size, 0, none⟩), .int .u64 150] 110)).cell? ⟨W.heap.size, 0, none⟩ = some (.pointer (some ⟨b, 0, none⟩)) := cell_alloc _ (cell_new _ _ _ 0 _ rfl)
  have key := as_need_c E e hc2 (.iface 94 (.pointer (some ⟨b, 0, none⟩))) ⟨W.heap.size, 0, none⟩ b ha2 cs ty hb2 hn
  have hne : ∃ u v, E = .iface u v := by cases hch <;> exact ⟨_, _, rfl⟩
  obtain ⟨u0, v0, rfl⟩ := hne
  clear hch hc2 hb hb2
  cases hk : e.as_need with
  | none =>
    go_enter Tryd.func49, Tryd.ntmps49
    go_wp2_with (first | (go_at_call 74; refine key.mono ?_; rintro ev w' ⟨q1, q2⟩; obtain ⟨rfl, q3⟩ := q1 hk) | go_in)
    go_ret
    exact ⟨fun _ => ⟨rfl, gr2.trans q3⟩, fun r h => (by cases h)⟩
  | some r =>
    go_enter Tryd.func49, Tryd.ntmps49
    go_wp2_with (first | (go_at_call 74; refine key.mono ?_; rintro ev w' ⟨q1, q2⟩; obtain ⟨rfl, q3⟩ := q2 _ hk) | go_in)
    go_ret
    exact ⟨fun h => (by cases h), fun r h => (by cases h; exact ⟨rfl, q3.gr gr2⟩)⟩
set_option maxRecDepth 1000000 in
set_option maxHeartbeats 8000000 in
theorem As_wrap {W : World} (E : Value) (e : EV) (hch : Chain W E e) (b : Nat) (cs : Array Value) (ty : TypeId) (hb : W.heap[b]? = some (.cells cs ty (0, 0))) (hn : cs.size = 1) (hg : W.cell? ⟨0, 0, none⟩ = some (rty 38)) :
    Calls Tryd.prog 49 #[E, .iface 87 (.pointer (some ⟨b, 0, none⟩))] W fun ev w' => ((as_wrap E e) = none → ev = .returned (.bool false) ∧ Gr W w') ∧ (∀ r, (as_wrap E e) = some r → ev = .returned (.bool true) ∧ Hit W w' b r ty) := by
  have hVO := @run_callFunc_extern Tryd.prog 71 _ (fun args => ReflectliteValue.unpack (args.getD 0 (.tuple #[]))) Tryd.func71 (by kernel_rfl) (by kernel_rfl) (by kernel_rfl) (by kernel_rfl)
  have hTY := @run_callFunc_extern Tryd.prog 72 _ (ReflectliteValue.methodAny (ReflectliteValue.valueError "reflectlite.Value.Type" 0) (fun t _ _ _ => ReflectliteType.toType t)) Tryd.func72 (by kernel_rfl) (by kernel_rfl) (by kernel_rfl) (by kernel_rfl)
  have hIN := @run_callFunc_extern Tryd.prog 73 _ (ReflectliteValue.method (ReflectliteValue.valueError "reflectlite.Value.IsNil" 0) ReflectliteValue.isNil) Tryd.func73 (by kernel_rfl) (by kernel_rfl) (by kernel_rfl) (by kernel_rfl)
  have hKI := @run_callFunc_extern Tryd.prog 116 _ (ReflectliteType.abiMethod fun t => do pure (.int .u8 (← Rtype.kind t))) Tryd.func116 (by kernel_rfl) (by kernel_rfl) (by kernel_rfl) (by kernel_rfl)
  have hEL := @run_callFunc_extern Tryd.prog 129 _ (ReflectliteType.method ReflectliteType.elem) Tryd.func129 (by kernel_rfl) (by kernel_rfl) (by kernel_rfl) (by kernel_rfl)
  have hIM := @run_callFunc_extern Tryd.prog 130 _ (ReflectliteType.relation "Implements" ReflectliteType.implements_) Tryd.func130 (by kernel_rfl) (by kernel_rfl) (by kernel_rfl) (by kernel_rfl)
  have f6 := valueOfP_wrap
  have f7 := typeP_wrap
  have mK := mKind
  have mE := mElem
  have mI := mImplements
  have k1 := kindP_wrap
  have k2 := kindE_wrap
  have e1 := elemT_wrap
  have i1 := implements_wrap
  have n8 := isNil_wrap ⟨W.heap.size, 0, none⟩ ⟨b, 0, none⟩ ((W.alloc (.cells #[.pointer (some ⟨b, 0, none⟩)] 87)).alloc (.cells #[hnd 87, .pointer (some ⟨W.heap.size, 0, none⟩), .int .u64 150] 110)) (cell_alloc _ (cell_new _ _ _ 0 _ rfl))
  have hg2 : ((W.alloc (.cells #[.pointer (some ⟨b, 0, none⟩)] 87)).alloc (.cells #[hnd 87, .pointer (some ⟨W.heap.size, 0, none⟩), .int .u64 150] 110)).cell? ⟨0, 0, none⟩ = some (rty 38) := cell_alloc _ (cell_alloc _ hg)
  have gr2 : Gr W ((W.alloc (.cells #[.pointer (some ⟨b, 0, none⟩)] 87)).alloc (.cells #[hnd 87, .pointer (some ⟨W.heap.size, 0, none⟩), .int .u64 150] 110)) := (Gr.alloc _ _).trans (Gr.alloc _ _)
  have hb2 := gr2.block hb
  have hc2 := hch.gr gr2
  have ha2 : ((W.alloc (.cells #[.pointer (some ⟨b, 0, none⟩)] 87)).alloc (.cells #[hnd 87, .pointer (some ⟨W.heap.size, 0, none⟩), .int .u64 150] 110)).cell? ⟨W.heap.size, 0, none⟩ = some (.pointer (some ⟨b, 0, none⟩)) := cell_alloc _ (cell_new _ _ _ 0 _ rfl)
  have key := as_wrap_c E e hc2 (.iface 87 (.pointer (some ⟨b, 0, none⟩))) ⟨W.heap.size, 0, none⟩ b ha2 cs ty hb2 hn
  have hne : ∃ u v, E = .iface u v := by cases hch <;> exact ⟨_, _, rfl⟩
  obtain ⟨u0, v0, rfl⟩ := hne
  clear hch hc2 hb hb2
  cases hk : (as_wrap (.iface u0 v0) e) with
  | none =>
    go_enter Tryd.func49, Tryd.ntmps49
    go_wp2_with (first | (go_at_call 74; refine key.mono ?_; rintro ev w' ⟨q1, q2⟩; obtain ⟨rfl, q3⟩ := q1 hk) | go_in)
    go_ret
    exact ⟨fun _ => ⟨rfl, gr2.trans q3⟩, fun r h => (by cases h)⟩
  | some r =>
    go_enter Tryd.func49, Tryd.ntmps49
    go_wp2_with (first | (go_at_call 74; refine key.mono ?_; rintro ev w' ⟨q1, q2⟩; obtain ⟨rfl, q3⟩ := q2 _ hk) | go_in)
    go_ret
    exact ⟨fun h => (by cases h), fun r h => (by cases h; exact ⟨rfl, q3.gr gr2⟩)⟩
theorem As_nil (t : Value) (w : World) : Calls Tryd.prog 49 #[.nilIface, t] w fun e w' => e = .returned (.bool false) ∧ w' = w := by
  go_enter Tryd.func49, Tryd.ntmps49
  go_wp2
  go_ret
  exact ⟨rfl, rfl⟩
end Go.Proofs.YtjbbnollidcagaaDoor.Errs

namespace Go.Proofs.YtjbbnollidcagaaDoor.Errs
open Go Go.RowKit Go.Extern.Stop Go.Stop Go.Extern
set_option linter.unusedVariables false
set_option linter.unusedSimpArgs false
def EV.num : EV → Option Int
  | .code c => some c
  | .need _ _ => none
  | .wrap _ e => e.num
theorem EV.as_num : ∀ e : EV, e.as_code = e.num.map fun c => #[.int .i64 c]
  | .code _ => rfl
  | .need _ _ => rfl
  | .wrap _ e => by simp only [EV.as_code, EV.num]; exact e.as_num
end Go.Proofs.YtjbbnollidcagaaDoor.Errs

namespace Go.Proofs.YtjbbnollidcagaaDoor.Asl
open Go Go.RowKit
set_option linter.unusedVariables false
set_option linter.unusedSimpArgs false
variable {P : Program} {nt : Nat} {C : Cx} {σ : St} {a : Act} {e : Nat → AV} {h : Hp}
mutual
def AV.fzb (k : Nat) (X : AV) : AV → AV
  | .ptr id off => if id = k ∧ off = 0 then .fp X else .ptr id off
  | .agg l => .agg (AV.fzbs k X l)
  | .tup l => .tup (AV.fzbs k X l)
  | .ifc t x => .ifc t (AV.fzb k X x)
  | .fn f l m => .fn f (AV.fzbs k X l) (AV.fzbs k X m)
  | x => x
def AV.fzbs (k : Nat) (X : AV) : List AV → List AV
  | [] => []
  | x :: l => AV.fzb k X x :: AV.fzbs k X l
end
theorem AV.fzb_one (k : Nat) (X x : AV) : (AV.fzb k X x).one = x.one := by
  cases x with
  | ptr id off => simp only [AV.fzb]; split <;> simp [AV.one]
  | raw v => rfl
  | _ => simp [AV.fzb, AV.one]
mutual
theorem AV.fzb_size (k : Nat) (X : AV) : ∀ x : AV, (AV.fzb k X x).size = x.size
  | .ptr id off => by simp only [AV.fzb]; split <;> simp [AV.size]
  | .agg l => by simp [AV.fzb, AV.size, AV.fzbs_sizes k X l]
  | .ow .. | .ep .. | .tup _ | .ifc .. | .fn .. | .any | .raw _ | .sl .. | .fp _ => by simp [AV.fzb, AV.size]
theorem AV.fzbs_sizes (k : Nat) (X : AV) : ∀ l : List AV, AV.sizes (AV.fzbs k X l) = AV.sizes l
  | [] => rfl
  | x :: l => by simp [AV.fzbs, AV.sizes, AV.fzb_size k X x, AV.fzbs_sizes k X l]
end
theorem AV.fzbs_mem (k : Nat) (X : AV) : ∀ {l : List AV} {y : AV}, y ∈ AV.fzbs k X l → ∃ x ∈ l, y = AV.fzb k X x
  | x :: l, y, hy => by
    simp only [AV.fzbs, List.mem_cons] at hy
    rcases hy with rfl | hy
    · exact ⟨x, by simp, rfl⟩
    · obtain ⟨z, h1, h2⟩ := AV.fzbs_mem k X hy
      exact ⟨z, by simp [h1], h2⟩
structure FzB (C : Cx) (k : Nat) (X : AV) : Prop where
  at_ : ∃ b T cs, C.ι k = some (b, T) ∧ C.F b ∧ Reads C.W b 0 cs ∧ RC C.bare X cs
theorem FzB.ptr {k : Nat} {X : AV} (f : FzB C k X) {id off : Nat} {v : Value} (hx : RV C (.ptr id off) v) : RV C (AV.fzb k X (.ptr id off)) v := by
  simp only [AV.fzb]
  split
  · rename_i hc
    obtain ⟨rfl, rfl⟩ := hc
    obtain ⟨b, T, cs, h1, h2, h3, h4⟩ := f.at_
    cases hx with
    | ptr g => rw [h1] at g; cases g; exact .fp h4 h2 h3
  · exact hx
mutual
theorem RV.fzb {C : Cx} {k : Nat} {X : AV} (f : FzB C k X) {x : AV} {v : Value} (hx : RV C x v) : RV C (AV.fzb k X x) v :=
  match hx with
  | .any v => .any v
  | .raw v => .raw v
  | .agg q => .agg (q.fzb f)
  | .tup q => .tup (q.fzb f)
  | .sl0 => .sl0
  | .sl q hs hF hr hc => .sl q hs hF hr hc
  | .fp q hF hr => .fp q hF hr
  | .ptr q => f.ptr (.ptr q)
  | .ep q => .ep q
  | .ow q hl => .ow q hl
  | .ow0 q hl => .ow0 q hl
  | .ifc q => .ifc (q.fzb f)
  | .fn h1 h2 => .fn (h1.fzb f) (h2.fzb f)
theorem RC.fzb {C : Cx} {k : Nat} {X : AV} (f : FzB C k X) {x : AV} {cs : List Value} (hx : RC C x cs) : RC C (AV.fzb k X x) cs :=
  match hx with
  | .agg q => .agg (q.fzb f)
  | .one q h1 => .one (q.fzb f) (by rw [AV.fzb_one]; exact h1)
theorem RCs.fzb {C : Cx} {k : Nat} {X : AV} (f : FzB C k X) {l : List AV} {cs : List Value} (hx : RCs C l cs) : RCs C (AV.fzbs k X l) cs :=
  match hx with
  | .nil => .nil
  | .cons q q2 => .cons (q.fzb f) (q2.fzb f)
theorem RVs.fzb {C : Cx} {k : Nat} {X : AV} (f : FzB C k X) {l : List AV} {vs : List Value} (hx : RVs C l vs) : RVs C (AV.fzbs k X l) vs :=
  match hx with
  | .nil => .nil
  | .cons q q2 => .cons (q.fzb f) (q2.fzb f)
end
def Ob.fzb (k : Nat) (X : AV) : Ob → Ob
  | .box x => .box (AV.fzb k X x)
  | .arr s l => .arr s (AV.fzbs k X l)
  | x => x
theorem Ob.fzb_live (k : Nat) (X : AV) (ob : Ob) : (ob.fzb k X).live = ob.live := by cases ob <;> rfl
def fzbH (k : Nat) (X : AV) (h : Hp) : Hp := fun i => if i = k then some .dead else (h i).map (Ob.fzb k X)
theorem Weak.fzb {k : Nat} {X : AV} (hob : h k = some (.box X)) (hn : X.noid = true) : Weak ⟨e, h⟩ ⟨fun t => AV.fzb k X (e t), fzbH k X h⟩ := fun nt C a s => by
  obtain ⟨b, T, cs, t, h1, h2, h3, h4⟩ := s.heap.at_ k _ hob
  let C' : Cx := { W := C.W, F := fun k => C.F k ∨ k = b, O := fun k => C.O k ∧ k ≠ b, ι := C.ι }
  have u : Up C C' := ⟨fun _ h => .inl h, fun _ _ => rfl, fun _ _ h => h⟩
  have hr : Reads C.W b 0 cs.toList := Reads.of_block h3
  have f : FzB C' k X := ⟨b, T, cs.toList, h1, .inr rfl, hr, (h4.bare hn).up u.bare⟩
  refine ⟨C', rfl, ⟨rfl, rfl, rfl, Nat.le_refl _, fun _ h => .inl h, fun _ _ _ => rfl, fun k hk => ?_, fun k hk => .inl hk.1, fun _ _ _ h => h⟩, s.defers, s.size, fun t => ((s.env t).up u).fzb f, ⟨fun i q hq => ?_, fun i hi => ?_, fun i j b' T' U' o q g1 g2 g3 g4 g5 g6 => ?_, fun k hk hF => ?_, fun k hk => ?_, fun k hk => s.heap.olt k hk.1, s.heap.gl.up u⟩⟩
  · rcases hk with hk | rfl
    · exact .inl hk
    · exact .inr (.inl h2)
  · simp only [fzbH] at hq
    by_cases e : i = k
    · rw [if_pos e] at hq; cases hq; subst e
      exact ⟨b, T, h1⟩
    · rw [if_neg e] at hq
      obtain ⟨o, ho, rfl⟩ := Option.map_eq_some_iff.1 hq
      have hs : HSat C' i o := by
        refine (s.heap.at_ i o ho).up u fun b2 T2 k2 k3 k4 => ⟨⟨k3, fun e2 => ?_⟩, rfl⟩
        subst e2
        exact e (s.heap.inj i k _ _ _ o _ ho k4 hob rfl k2 h1)
      cases o with
      | box x =>
        obtain ⟨b, T, cs, t, q1, q2, q3, q4⟩ := hs
        exact ⟨b, T, cs, t, q1, q2, q3, q4.fzb f⟩
      | arr sz l =>
        obtain ⟨b, T, cs, t, fr, c1, c2, q1, q2, q3, q4, q5, q6, q7, q8, q9⟩ := hs
        refine ⟨b, T, cs, t, fr, c1, c2, q1, q2, q3, q4, q5, q6.fzb f, fun y hy => ?_, q8, q9⟩
        obtain ⟨x, hx, rfl⟩ := AV.fzbs_mem k X hy
        rw [AV.fzb_size]; exact q7 x hx
      | fz sz l => exact hs
      | dead => exact hs
  · simp only [fzbH] at hi
    by_cases e : i = k
    · rw [if_pos e] at hi; cases hi
    · rw [if_neg e] at hi; exact s.heap.no i (by simpa using hi)
  · have g : ∀ i (q : Ob), fzbH k X h i = some q → q.live = true → ∃ o, h i = some o ∧ o.live = true := by
      intro i q hk hq
      simp only [fzbH] at hk
      by_cases e2 : i = k
      · rw [if_pos e2] at hk; cases hk; simp [Ob.live] at hq
      · rw [if_neg e2] at hk
        obtain ⟨o, ho, rfl⟩ := Option.map_eq_some_iff.1 hk
        exact ⟨o, ho, by rw [Ob.fzb_live] at hq; exact hq⟩
    obtain ⟨o1, x1, x2⟩ := g i o g1 g2
    obtain ⟨o2, y1, y2⟩ := g j q g3 g4
    exact s.heap.inj i j b' T' U' o1 o2 x1 x2 y1 y2 g5 g6
  · rcases hF with hF | rfl
    · exact s.heap.apart k hk.1 hF
    · exact hk.2 rfl
  · rcases hk with hk | rfl
    · exact s.heap.lt k hk
    · exact s.heap.olt _ h2
/-- A variable that was made, handed on for reading. -/
theorem Fin.fzb {k : Nat} {X r r' : AV} (hob : h k = some (.box X)) (hn : X.noid = true) (hr : Is (AV.fzb k X r) r') (hn' : Is r'.noid true) (hb : BigIn h noHeap) (hk : k < 100000) : Fin h r noHeap r' := by
  have h1 : Fin h r (fzbH k X h) r' := by
    have := Weak.fzb (e := E1 r) hob hn
    have e : (fun t => AV.fzb k X (E1 r t)) = E1 r' := by
      funext t
      unfold E1
      split
      · exact hr
      · rfl
    rw [e] at this
    exact this
  refine h1.trans (Fin.drop hn' fun id hid h0 => ?_)
  simp only [fzbH]
  rw [if_neg (by omega), hb id hid h0]; rfl
attribute [simp] AV.fzb AV.fzbs
end Go.Proofs.YtjbbnollidcagaaDoor.Asl

namespace Go.Proofs.YtjbbnollidcagaaDoor.Asl
open Go Go.RowKit
open Go.Proofs.YtjbbnollidcagaaDoor.Errs (EV Gr Hit)
set_option linter.unusedVariables false
set_option linter.unusedSimpArgs false
def errAV : EV → AV
  | .code c => .ifc 25 (.raw (.int .i64 c))
  | .need lo hi => .ifc 48 (.agg [.raw (.string lo), .raw (.string hi)])
  | .wrap p e => .ifc 86 (.fp (.agg [.raw (.string p), errAV e]))
def errO : Option EV → AV
  | none => .raw .nilIface
  | some e => errAV e
@[simp] theorem errO_none : errO none = .raw .nilIface := rfl
@[simp] theorem errO_some {e : EV} : errO (some e) = errAV e := rfl
@[simp] theorem errAV_code {c : Int} : errAV (.code c) = .ifc 25 (.raw (.int .i64 c)) := rfl
@[simp] theorem errAV_need {lo hi : ByteArray} : errAV (.need lo hi) = .ifc 48 (.agg [.raw (.string lo), .raw (.string hi)]) := rfl
@[simp ↓ high] theorem errAV_noid : ∀ e : EV, (errAV e).noid = true
  | .code _ => by simp
  | .need _ _ => by simp
  | .wrap p e => by simp [errAV]
@[simp ↓ high] theorem errO_noid (e : Option EV) : (errO e).noid = true := by cases e <;> simp
@[simp ↓ high] theorem errAV_one : ∀ e : EV, (errAV e).one = true
  | .code _ => rfl
  | .need _ _ => rfl
  | .wrap _ _ => rfl
@[simp ↓ high] theorem errO_one (e : Option EV) : (errO e).one = true := by
  cases e with
  | none => rfl
  | some e => exact errAV_one e
@[simp ↓ high] theorem errAV_size (e : EV) : (errAV e).size = 1 := AV.size_one (errAV_one e)
@[simp ↓ high] theorem errO_size (e : Option EV) : (errO e).size = 1 := AV.size_one (errO_one e)
@[simp ↓ high] theorem errAV_isAgg (e : EV) : (errAV e).isAgg = false := by cases e <;> rfl
@[simp ↓ high] theorem errO_isAgg (e : Option EV) : (errO e).isAgg = false := by
  cases e with
  | none => rfl
  | some e => exact errAV_isAgg e
@[simp] theorem errAV_deep (h : Hp) (e : EV) : (errAV e).deep h = errAV e := noid_deep.1 _ (errAV_noid e) h
@[simp] theorem errO_deep (h : Hp) (e : Option EV) : (errO e).deep h = errO e := noid_deep.1 _ (errO_noid e) h
@[simp] theorem errAV_within (h : Hp) (e : EV) : (errAV e).within h = true := (noid_withins h).1 _ (errAV_noid e)
@[simp] theorem errO_within (h : Hp) (e : Option EV) : (errO e).within h = true := (noid_withins h).1 _ (errO_noid e)
@[simp] theorem errAV_ren (π : Nat → Nat) (e : EV) : (errAV e).ren π = errAV e := noid_ren.1 _ (errAV_noid e) π
@[simp] theorem errO_ren (π : Nat → Nat) (e : Option EV) : (errO e).ren π = errO e := noid_ren.1 _ (errO_noid e) π
@[simp] theorem errAV_rows (e : EV) : (errAV e).rowsOf = [] := noid_rows.1 _ (errAV_noid e)
@[simp] theorem errO_rows (e : Option EV) : (errO e).rowsOf = [] := noid_rows.1 _ (errO_noid e)
@[simp ↓ high] theorem errAV_top (e : EV) : (errAV e).top = none := by cases e <;> rfl
@[simp ↓ high] theorem errAV_tag (e : EV) : (errAV e).tagP = some none := by
  cases e with
  | code c => rfl
  | need lo hi => rfl
  | wrap p e => simp only [errAV, AV.tagP]; rw [if_pos (by simp)]
@[simp ↓ high] theorem errO_tag (e : Option EV) : (errO e).tagP = some none := by
  cases e with
  | none => rfl
  | some e => exact errAV_tag e
@[simp ↓ high] theorem ifNil_err (e : EV) : ifNil (errAV e) = some false := by cases e <;> rfl
theorem get_leaf {x : AV} (h : x.isAgg = false) (n : Nat) (ag : Bool) (off : Nat) : AV.get n ag x off = if off = 0 ∧ n = 1 ∧ ag = false then some x else none := by
  cases x with
  | agg l => simp [AV.isAgg] at h
  | _ => simp [AV.get]
theorem set_leaf {x : AV} (h : x.isAgg = false) (n : Nat) (y : AV) (off : Nat) : AV.set n y x off = if off = 0 ∧ n = 1 ∧ y.one = true then some y else none := by
  cases x with
  | agg l => simp [AV.isAgg] at h
  | _ => simp [AV.set]
@[simp ↓ high] theorem errAV_get (e : EV) (n : Nat) (ag : Bool) (off : Nat) : AV.get n ag (errAV e) off = if off = 0 ∧ n = 1 ∧ ag = false then some (errAV e) else none := get_leaf (errAV_isAgg e) n ag off
@[simp ↓ high] theorem errO_get (e : Option EV) (n : Nat) (ag : Bool) (off : Nat) : AV.get n ag (errO e) off = if off = 0 ∧ n = 1 ∧ ag = false then some (errO e) else none := get_leaf (errO_isAgg e) n ag off
@[simp ↓ high] theorem errAV_set (e : EV) (n : Nat) (y : AV) (off : Nat) : AV.set n y (errAV e) off = if off = 0 ∧ n = 1 ∧ y.one = true then some y else none := set_leaf (errAV_isAgg e) n y off
@[simp ↓ high] theorem errO_set (e : Option EV) (n : Nat) (y : AV) (off : Nat) : AV.set n y (errO e) off = if off = 0 ∧ n = 1 ∧ y.one = true then some y else none := set_leaf (errO_isAgg e) n y off
theorem chain_of : ∀ (e : EV) {C : Cx} {v : Value}, RV C (errAV e) v → Errs.Chain C.W v e
  | .code c, C, v, h => by
    cases h with
    | ifc h => rw [RV.raw_eq h]; exact .code c
  | .need lo hi, C, v, h => by
    cases h with
    | ifc h =>
      cases h with
      | agg h =>
        cases h with
        | cons h1 h2 =>
          cases h2 with
          | cons h2 h3 =>
            cases h3
            cases h1 with
            | one h1 _ =>
              cases h2 with
              | one h2 _ =>
                rw [RV.raw_eq h1, RV.raw_eq h2]; exact .need lo hi
  | .wrap p e, C, v, h => by
    cases h with
    | ifc h =>
      cases h with
      | fp h hF hr =>
        cases h with
        | one h h1 => simp [AV.one] at h1
        | agg h =>
          cases h with
          | cons h1 h2 =>
            cases h2 with
            | cons h2 h3 =>
              cases h3
              cases h1 with
              | one h1 _ =>
                obtain ⟨v', rfl, h2v⟩ := h2.val.2 (errAV_isAgg e)
                rw [RV.raw_eq h1] at hr
                refine .wrap _ _ p _ e ?_ ?_ (chain_of e (h2v.up (bare_up C)))
                · exact hr 0 _ rfl
                · exact hr 1 _ rfl
/-- A world that has grown. -/
theorem HOk.gr {C : Cx} {h : Hp} (hh : HOk C h) {W' : World} (g : Gr C.W W') : HOk { C with W := W' } h ∧ Ext C { C with W := W' } ∧ Up C { C with W := W' } := by
  have u : Up C { C with W := W' } := ⟨fun _ h => h, fun b hb => g.old b (hh.lt b hb), fun _ _ h => h⟩
  refine ⟨⟨fun id ob k => (hh.at_ id ob k).up u (fun b T _ hO _ => ⟨hO, g.old b (hh.olt b hO)⟩), hh.no, hh.inj, hh.apart, fun b hb => Nat.lt_of_lt_of_le (hh.lt b hb) g.size, fun b hb => Nat.lt_of_lt_of_le (hh.olt b hb) g.size, hh.gl.up u⟩,
    ⟨g.os, g.tape, g.output, g.size, fun _ h => h, fun b hb _ => g.old b hb, fun _ h => .inl h, fun _ h => .inl h, fun _ _ _ h => h⟩, u⟩
theorem HOk.hit {C : Cx} {X X' : AV} (hh : HOk C (setH noHeap 100000 (.box X))) {W' : World} {b T : Nat} {cs : Array Value} {ty : TypeId} (hι : C.ι 100000 = some (b, T)) (k : Hit C.W W' b cs ty) (hX : RC C.bare X' cs.toList) :
    HOk { C with W := W' } (setH noHeap 100000 (.box X')) ∧ Ext C { C with W := W' } ∧ Up C { C with W := W' } := by
  obtain ⟨W2, g, hp, hw⟩ := k
  obtain ⟨h1, e1, u1⟩ := hh.gr g
  have hs := h1.at_ 100000 (.box X) rfl
  obtain ⟨b', T', cs', t', k1, k2, k3, k4⟩ := hs
  have k1' : C.ι 100000 = some (b', T') := k1
  rw [hι] at k1'
  cases k1'
  have u0 := put_up h1 k2 hp
  have sat : Sat 0 { C with W := W2 } ⟨fun _ => .any, setH noHeap 100000 (.box X)⟩ { tmps := #[], defers := [] } := ⟨rfl, rfl, fun _ => .any _, h1⟩
  have s2 := upd_sat (ob' := .box X') sat rfl rfl hι k2 hp rfl ⟨b, T, cs, ty, hι, k2, hw, (hX.up ((u1.bare).trans u0.bare)).up (bare_up _)⟩
  refine ⟨?_, e1.trans (put_ext k2 hp), u1.trans u0⟩
  have e0 : setH (setH noHeap 100000 (.box X)) 100000 (.box X') = setH noHeap 100000 (.box X') := by
    funext i; simp only [setH]; split <;> rfl
  have := s2.heap
  rw [e0] at this
  exact this
theorem glob_at {C : Cx} {h : Hp} (hh : HOk C h) : C.W.cell? ⟨0, 0, none⟩ = some (Errs.rty 38) := (hh.gl _ (List.mem_cons_self)).2
theorem box_at {C : Cx} {X : AV} (hh : HOk C (setH noHeap 100000 (.box X))) : ∃ b T cs ty, C.ι 100000 = some (b, T) ∧ C.W.heap[b]? = some (.cells cs ty (0, 0)) ∧ cs.size = X.size := by
  obtain ⟨b, T, cs, t, h1, h2, h3, h4⟩ := hh.at_ 100000 (.box X) rfl
  exact ⟨b, T, cs, t, h1, h3, by rw [← Array.length_toList]; exact h4.len⟩
theorem c_AsCode (e : EV) (x : Int) : CallD Tryd.prog 49 [errAV e, .ifc 82 (.ptr 100000 0)] (setH noHeap 100000 (.box (.raw (.int .i64 x)))) (.raw (.bool e.num.isSome)) (setH noHeap 100000 (.box (.raw (.int .i64 (e.num.getD x))))) := by
  intro C vs hC hvs
  obtain ⟨b, T, cs, ty, hι, hb, hn⟩ := box_at hC
  cases hvs with
  | cons h1 h2 =>
    cases h2 with
    | cons h2 h3 =>
      cases h3
      cases h2 with
      | ifc h2 =>
        cases h2 with
        | ptr h2 =>
          rw [hι] at h2; cases h2
          refine Calls.mono (Errs.As_code _ e (chain_of e h1) b cs ty hb hn (glob_at hC)) ?_
          rintro ev W' ⟨q1, q2⟩
          rw [Errs.EV.as_num] at q1 q2
          cases hk : e.num with
          | none =>
            obtain ⟨rfl, g⟩ := q1 (by rw [hk]; rfl)
            obtain ⟨k1, k2, k3⟩ := hC.gr g
            exact ⟨_, _, rfl, rfl, k2, k1, .raw _, fun _ _ h => h⟩
          | some c =>
            obtain ⟨rfl, g⟩ := q2 _ (by rw [hk]; rfl)
            obtain ⟨k1, k2, k3⟩ := hC.hit (X' := .raw (.int .i64 c)) hι g (.one (.raw _) rfl)
            exact ⟨_, _, rfl, rfl, k2, k1, .raw _, fun _ _ h => h⟩
def EV.need? : EV → Option (ByteArray × ByteArray)
  | .code _ => none
  | .need lo hi => some (lo, hi)
  | .wrap _ e => EV.need? e
theorem as_need_eq : ∀ e : EV, e.as_need = (EV.need? e).map fun p => #[.string p.1, .string p.2]
  | .code _ => rfl
  | .need _ _ => rfl
  | .wrap _ e => by simp only [Errs.EV.as_need, EV.need?]; exact as_need_eq e
abbrev needAV (p : ByteArray × ByteArray) : AV := .agg [.raw (.string p.1), .raw (.string p.2)]
theorem c_AsNeed (e : EV) (x : ByteArray × ByteArray) : CallD Tryd.prog 49 [errAV e, .ifc 94 (.ptr 100000 0)] (setH noHeap 100000 (.box (needAV x))) (.raw (.bool (EV.need? e).isSome)) (setH noHeap 100000 (.box (needAV ((EV.need? e).getD x)))) := by
  intro C vs hC hvs
  obtain ⟨b, T, cs, ty, hι, hb, hn⟩ := box_at hC
  cases hvs with
  | cons h1 h2 =>
    cases h2 with
    | cons h2 h3 =>
      cases h3
      cases h2 with
      | ifc h2 =>
        cases h2 with
        | ptr h2 =>
          rw [hι] at h2; cases h2
          refine Calls.mono (Errs.As_need _ e (chain_of e h1) b cs ty hb hn (glob_at hC)) ?_
          rintro ev W' ⟨q1, q2⟩
          rw [as_need_eq] at q1 q2
          cases hk : EV.need? e with
          | none =>
            obtain ⟨rfl, g⟩ := q1 (by rw [hk]; rfl)
            obtain ⟨k1, k2, k3⟩ := hC.gr g
            exact ⟨_, _, rfl, rfl, k2, k1, .raw _, fun _ _ h => h⟩
          | some c =>
            obtain ⟨rfl, g⟩ := q2 _ (by rw [hk]; rfl)
            obtain ⟨k1, k2, k3⟩ := hC.hit (X' := needAV c) hι g (.agg (.cons (.one (.raw _) rfl) (.cons (.one (.raw _) rfl) .nil)))
            exact ⟨_, _, rfl, rfl, k2, k1, .raw _, fun _ _ h => h⟩
/-- The first link, if it has a place. -/
def EV.link : EV → Option AV
  | .wrap p e => some (.fp (.agg [.raw (.string p), errAV e]))
  | _ => none
theorem c_AsFault (e : EV) (X : AV) (hX : X.size = 1) : CallD Tryd.prog 49 [errAV e, .ifc 87 (.ptr 100000 0)] (setH noHeap 100000 (.box X)) (.raw (.bool (EV.link e).isSome)) (setH noHeap 100000 (.box ((EV.link e).getD X))) := by
  intro C vs hC hvs
  obtain ⟨b, T, cs, ty, hι, hb, hn⟩ := box_at hC
  cases hvs with
  | cons h1 h2 =>
    cases h2 with
    | cons h2 h3 =>
      cases h3
      cases h2 with
      | ifc h2 =>
        cases h2 with
        | ptr h2 =>
          rw [hι] at h2; cases h2
          refine Calls.mono (Errs.As_wrap _ e (chain_of e h1) b cs ty hb (by rw [hn, hX]) (glob_at hC)) ?_
          rintro ev W' ⟨q1, q2⟩
          cases e with
          | code c =>
            obtain ⟨rfl, g⟩ := q1 rfl
            obtain ⟨k1, k2, k3⟩ := hC.gr g
            exact ⟨_, _, rfl, rfl, k2, k1, .raw _, fun _ _ h => h⟩
          | need lo hi =>
            obtain ⟨rfl, g⟩ := q1 rfl
            obtain ⟨k1, k2, k3⟩ := hC.gr g
            exact ⟨_, _, rfl, rfl, k2, k1, .raw _, fun _ _ h => h⟩
          | wrap p e =>
            cases h1 with
            | ifc h1 =>
              obtain ⟨rfl, g⟩ := q2 _ rfl
              obtain ⟨k1, k2, k3⟩ := hC.hit (X' := .fp (.agg [.raw (.string p), errAV e])) hι g (.one (h1.bare (by simp)) rfl)
              exact ⟨_, _, rfl, rfl, k2, k1, .raw _, fun _ _ h => h⟩
theorem c_AsNil (t : Nat) (X : AV) : CallD Tryd.prog 49 [.raw .nilIface, .ifc t (.ptr 100000 0)] (setH noHeap 100000 (.box X)) (.raw (.bool false)) (setH noHeap 100000 (.box X)) := by
  intro C vs hC hvs
  cases hvs with
  | cons h1 h2 =>
    cases h2 with
    | cons h2 h3 =>
      cases h3
      rw [RV.raw_eq h1]
      refine Calls.mono (Errs.As_nil _ _) ?_
      rintro ev W' ⟨rfl, rfl⟩
      exact ⟨_, C, rfl, rfl, .refl C, hC, .raw _, fun _ _ h => h⟩
end Go.Proofs.YtjbbnollidcagaaDoor.Asl

