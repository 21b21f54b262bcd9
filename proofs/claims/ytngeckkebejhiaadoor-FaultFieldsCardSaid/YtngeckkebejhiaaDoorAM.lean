/- The system of all operations; functions. -/
import Derived.Test.YtngeckkebejhiaaDoorAL
namespace Go.Proofs.YtngeckkebejhiaaDoor.Asl
open Go Go.RowKit
set_option linter.unusedVariables false
set_option linter.unusedSimpArgs false
variable {P : Program} {nt : Nat} {C : Cx} {σ : St} {a : Act} {o : Oper}

theorem elemAt_heap {h g : Hp} {sz i : Nat} {x : AV} : elemAt h sz i x = elemAt g sz i x := by cases x <;> rfl

theorem min_run {k k' : IntKind} {x y : Int} (ts : Array TypeId) (t : TypeId) (w : World) : (Builtin.min_ ts t #[.int k x, .int k' y]).run P w = .ok (.int k (if y < x then y else x)) w := by
  simp [Builtin.min_, Builtin.min2]
theorem max_run {k k' : IntKind} {x y : Int} (ts : Array TypeId) (t : TypeId) (w : World) : (Builtin.max_ ts t #[.int k x, .int k' y]).run P w = .ok (.int k (if y > x then y else x)) w := by
  simp [Builtin.max_, Builtin.max2]

theorem snd_minmax (s : Sat nt C σ a) {c : Call} (ho : o.op = .call c) {r : AV} :
    (c.callee = .builtin .min → minV (c.args.toList.map (evE σ.env)) = some r → Res P nt C σ a o r σ.heap) ∧ (c.callee = .builtin .max → maxV (c.args.toList.map (evE σ.env)) = some r → Res P nt C σ a o r σ.heap) := by
  have hargs := s.evs c.args.toList
  have key : ∀ (X Y : AV) (k k' : IntKind) (x y : Int), c.args.toList.map (evE σ.env) = [.raw (.int k x), .raw (.int k' y)] → c.args.map a.eval = #[.int k x, .int k' y] := by
    intro _ _ k k' x y h
    rw [h] at hargs
    have e2 : c.args.map a.eval = (c.args.toList.map a.eval).toArray := by rw [← Array.toList_map]
    rw [e2]
    generalize c.args.toList.map a.eval = vs at hargs
    cases hargs with
    | cons h1 h2 =>
      cases h2 with
      | cons h3 h4 =>
        cases h4
        rw [h1.raw_eq, h3.raw_eq]
  refine ⟨fun hc hm => ?_, fun hc hm => ?_⟩
  · unfold minV at hm
    split at hm
    · rename_i k x k' y e
      cases hm
      refine .mk s (v := .int k (if y < x then y else x)) ?_ (.raw _)
      simp [execOp, ho, resolve, hc, invoke, builtin, key .any .any k k' x y e, min_run]
    · cases hm
  · unfold maxV at hm
    split at hm
    · rename_i k x k' y e
      cases hm
      refine .mk s (v := .int k (if y > x then y else x)) ?_ (.raw _)
      simp [execOp, ho, resolve, hc, invoke, builtin, key .any .any k k' x y e, max_run]
    · cases hm

theorem D_sound {r : AV} {h' : Hp} (s : Sat nt C σ a) (hd : D P (evE σ.env) o σ.heap r h') (hdst : ∀ d, o.dst = some d → d < nt)
    (K : Act → World → Prop) (Q : Exit → Act → World → Prop) (hk : ∀ C' v, Ext C C' → Sat nt C' ⟨putE σ.env o.dst r, h'⟩ (a.put o.dst v) → K (a.put o.dst v) C'.W) : o.wp P a C.W K Q := by
  have fin : Res P nt C σ a o r h' → o.wp P a C.W K Q := fun h => h.wp hdst K Q hk
  unfold D at hd
  cases hop : o.op with
  | move x => rw [hop] at hd; obtain ⟨rfl, rfl⟩ := hd; exact fin (snd_move s (.inl hop))
  | assign x => rw [hop] at hd; obtain ⟨rfl, rfl⟩ := hd; exact fin (snd_move s (.inr hop))
  | pick c x y => rw [hop] at hd; obtain ⟨⟨b, hb, rfl⟩, rfl⟩ := hd; exact fin (snd_pick s hop hb)
  | nilCheck x => rw [hop] at hd; obtain ⟨⟨hb, rfl⟩, rfl⟩ := hd; exact fin (snd_nilCheck s hop hb)
  | extract x i => rw [hop] at hd; obtain ⟨⟨l, h1, h2⟩, rfl⟩ := hd; exact fin (snd_extract s hop h1 h2)
  | makeInterface t x => rw [hop] at hd; obtain ⟨⟨h1, rfl⟩, rfl⟩ := hd; exact fin (snd_makeInterface s hop h1)
  | makeFunc f first cap => rw [hop] at hd; obtain ⟨rfl, rfl⟩ := hd; exact fin (snd_makeFunc s hop)
  | fieldAddr t x f => rw [hop] at hd; obtain ⟨⟨off, n, ag, h1, h2⟩, rfl⟩ := hd; exact fin (snd_fieldAddr s hop h1 h2)
  | field t x f => rw [hop] at hd; obtain ⟨⟨off, n, ag, l, h1, h2, h3⟩, rfl⟩ := hd; exact fin (snd_field s hop h1 h2 h3)
  | load t x => rw [hop] at hd; obtain ⟨⟨n, ag, h1, h2⟩, rfl⟩ := hd; exact fin (snd_load s hop h1 h2)
  | store t x y => rw [hop] at hd; obtain ⟨n, ag, h1, h2, h3, h4, rfl⟩ := hd; exact fin (snd_store s hop h1 h2 h3 h4)
  | box t x => rw [hop] at hd; obtain ⟨q, h1, h2, h3, rfl, rfl⟩ := hd; exact fin (snd_box s hop h2 h3)
  | alloc t => rw [hop] at hd; obtain ⟨q, h1, h2, h3, rfl, rfl⟩ := hd; exact fin (snd_alloc s hop h2 h3)
  | binOp op t x y ty =>
    rw [hop] at hd
    obtain ⟨hd, rfl⟩ := hd
    rcases hd with ⟨v, u, w, h1, h2, h3, rfl⟩ | ⟨v, u, h1, h2, h3, h4⟩ | ⟨b, h1, h2, h3, h4⟩ | ⟨b, h1, rfl, h3, h4⟩ | ⟨ds, b, h1, h2, h3, h4⟩
    · exact fin (snd_binOp s hop h1 h2 h3)
    · rcases h4 with ⟨e, rfl⟩ | ⟨e, rfl⟩
      · exact fin ((snd_boolEq s hop h1 h2 h3).1 e)
      · exact fin ((snd_boolEq s hop h1 h2 h3).2 e)
    · rcases h4 with ⟨e, rfl⟩ | ⟨e, rfl⟩
      · exact fin ((snd_ptrNil s hop h1 h2 h3).1 e)
      · exact fin ((snd_ptrNil s hop h1 h2 h3).2 e)
    · rcases h4 with ⟨e, rfl⟩ | ⟨e, rfl⟩
      · exact fin ((snd_ifNil s hop h1 h3).1 e)
      · exact fin ((snd_ifNil s hop h1 h3).2 e)
    · rcases h4 with ⟨e, rfl⟩ | ⟨e, rfl⟩
      · exact fin ((snd_eqS s hop h1 h2 h3).1 e)
      · exact fin ((snd_eqS s hop h1 h2 h3).2 e)
  | unOp op t x => rw [hop] at hd; obtain ⟨⟨v, w, h1, h2, rfl⟩, rfl⟩ := hd; exact fin (snd_unOp s hop h1 h2)
  | convert sr t x =>
    rw [hop] at hd
    simp only [DConv] at hd
    split at hd
    · rcases hd with ⟨e, b, l, bs, h1, h2, h3, h4, h5, rfl, rfl⟩ | ⟨e, b, id, len, l, rfl, h1, h2, h3, h4, h5, rfl, rfl⟩
      · exact fin (snd_bytesStr s hop h1 h2 h3 h4 h5)
      · exact fin (snd_sameSl s hop h1 h2 h3 h4 h5)
    · split at hd
      · obtain ⟨e, b, x', q, h1, h2, h3, h4, h5, h6, rfl, rfl⟩ := hd
        exact fin (snd_strBytes s hop h1 h2 h3 h4 h6)
      · obtain ⟨v, w, h1, h2, h3, rfl, rfl⟩ := hd
        exact fin (snd_convert s hop h1 h2 h3)
  | index t x i => rw [hop] at hd; obtain ⟨⟨b, k, n, h1, h2, h3, h4, h5, rfl⟩, rfl⟩ := hd; exact fin (snd_index s hop h1 h2 h3 h4 h5)
  | slice t x lo hi mx =>
    rw [hop] at hd
    cases mx with
    | some y => exact hd.elim
    | none =>
      by_cases ha : isArr P t = true
      · simp only at hd
        rw [if_pos ha] at hd
        obtain ⟨rfl, m, sz, id, q, l, k, h1, h2, h3, h4, h5, h6, h7, h8, h9, h10, rfl, rfl⟩ := hd
        exact fin (snd_sliceArr s hop h1 h2 h3 h4 h5 h7 h8 h9 h10)
      simp only at hd
      rw [if_neg ha] at hd
      obtain ⟨hd, rfl⟩ := hd
      simp only [DSlice] at hd
      split at hd
      · rename_i hs
        obtain ⟨b, l, k, h1, h2, h3, h4, h5, h6, rfl⟩ := hd
        exact fin (snd_sliceStr s hop hs h1 h2 h3 h4 h5 h6)
      · obtain ⟨el, sz, b, l, k, h1, h2, h3, h4, h5, h6⟩ := hd
        rcases h6 with h6 | ⟨h6, h7, rfl⟩
        · exact fin (snd_sliceRow s hop h1 h2 h3 h4 h5 h6)
        · exact fin (snd_sliceNil s hop h1 h2 h3 h4 h5 h6 h7)
  | indexAddr t x i =>
    rw [hop] at hd
    obtain ⟨⟨el, sz, b, k, n, h1, h2, h3, h4⟩ | ⟨m, sz, k, n, id, off, h1, h2, h3, h4, h5, rfl⟩, rfl⟩ := hd
    · exact fin (snd_indexAddr s hop h1 h2 h3 (by rw [elemAt_heap (g := noHeap)]; exact h4))
    · exact fin (snd_indexArr s hop h1 h2 h3 h4 h5)
  | makeSlice t x y =>
    rw [hop] at hd
    obtain ⟨el, sz, b, n, c, k, k', q, h1, h2, h3, h4, h5, h6, h7, h8, h9, h10, h11, rfl, rfl⟩ := hd
    exact fin (snd_makeSlice s hop h1 h2 h3 h4 h5 h6 h7 h8 h9 h11)
  | build t ps => rw [hop] at hd; obtain ⟨⟨zs, l, h1, h2, h3, h4, rfl⟩, rfl⟩ := hd; exact fin (snd_build s hop h2 h3 h4)
  | buildSlice t n ps => rw [hop] at hd; obtain ⟨el, sz, b, l, q, h1, h2, h3, h4, h5, h6, h7, rfl, rfl⟩ := hd; exact fin (snd_buildSlice s hop h1 h2 h3 h4 h7 h5)
  | typeAssert x xt t ok =>
    rw [hop] at hd
    obtain ⟨⟨h1, h2⟩, rfl⟩ := hd
    refine fin (snd_assert s hop h1 ?_)
    rcases h2 with h2 | ⟨t', y, h2, h3, h4, h5, h6⟩ | ⟨h2, h3, h4, h5⟩
    · exact .inl h2
    · exact .inr (.inl ⟨t', y, _, h2, h3, h4, h5, h6⟩)
    · exact .inr (.inr ⟨_, h2, h3, h4, h5⟩)
  | call c =>
    rw [hop] at hd
    simp only at hd
    cases hc : c.callee with
    | builtin b =>
      rw [hc] at hd
      simp only [DBuiltin] at hd
      split at hd
      · rename_i x t e1 e2
        have hcc : c = { callee := .builtin .len, args := #[x], argTypes := #[t] } := by
          cases c; simp at hc e1 e2 ⊢
          exact ⟨hc, Array.toList_inj.1 (by simpa using e1), Array.toList_inj.1 (by simpa using e2)⟩
        split at hd
        · rename_i hs
          obtain ⟨b, h1, rfl, rfl⟩ := hd
          exact fin (snd_lenStr s hop hcc hs h1)
        · obtain ⟨el, sz, b, l, h1, h2, rfl, rfl⟩ := hd
          exact fin (snd_len s hop hcc h1 h2)
      · rename_i x y t u e1 e2
        have hcc : c = { callee := .builtin .append, args := #[x, y], argTypes := #[t, u] } := by
          cases c; simp at hc e1 e2 ⊢
          exact ⟨hc, Array.toList_inj.1 (by simpa using e1), Array.toList_inj.1 (by simpa using e2)⟩
        obtain ⟨el, sz, b, ys, q, h1, h2, h3, h4, h5⟩ := hd
        rcases h5 with ⟨id, len, l, g1, g2, g3, g4, g5, rfl, rfl⟩ | ⟨v, g1, g2, g3, g4, g5, rfl, rfl⟩
        · exact fin (snd_append s hop hcc h1 h2 h4 g1 g2 g3 g4 g5)
        · exact fin (snd_appendNil s hop hcc h1 h2 h4 g1 g2 g3 g4 g5)
      · rename_i x y t u e1 e2
        have hcc : c = { callee := .builtin .copy, args := #[x, y], argTypes := #[t, u] } := by
          cases c; simp at hc e1 e2 ⊢
          exact ⟨hc, Array.toList_inj.1 (by simpa using e1), Array.toList_inj.1 (by simpa using e2)⟩
        obtain ⟨el, sz, b, ys, id, off, len, l, h1, h2, h3, h4, h5, rfl, rfl⟩ := hd
        exact fin (snd_copy s hop hcc h1 h2 h3 h4 h5 rfl)
      · obtain ⟨h1, rfl⟩ := hd; exact fin ((snd_minmax s hop).1 hc h1)
      · obtain ⟨h1, rfl⟩ := hd; exact fin ((snd_minmax s hop).2 hc h1)
      · exact hd.elim
    | invoke _ _ => rw [hc] at hd; exact hd.elim
    | value x =>
      rw [hc] at hd
      have hargs : ∀ {f : FuncId} {xs : List AV}, argsOf (evE σ.env) x c.args = some (f, xs) → ∃ first cap, calleeOf (evE σ.env x) = some (f, first, cap) ∧ first ++ c.args.toList.map (evE σ.env) ++ cap = xs := by
        intro f xs h
        unfold argsOf at h
        obtain ⟨⟨f', fi, ca⟩, h1, h2⟩ := Option.map_eq_some_iff.1 h
        simp only [Prod.mk.injEq] at h2
        obtain ⟨rfl, rfl⟩ := h2
        exact ⟨fi, ca, h1, rfl⟩
      simp only at hd
      split at hd
      · split at hd
        · obtain ⟨f, xs, q, h1, h2, h3, h4, h5, h6⟩ := hd
          obtain ⟨first, cap, e1, e2⟩ := hargs h1
          rcases h6 with ⟨h6, rfl⟩ | ⟨ob, h6, rfl⟩
          · exact snd_callN s hop hc e1 h2 e2 h3 h5 h6 hdst K Q hk
          · exact snd_callO s hop hc e1 h2 e2 h3 h5 h6 hdst K Q hk
        · obtain ⟨f, xs, h1, h2, h3, h4, rfl⟩ := hd
          obtain ⟨first, cap, e1, e2⟩ := hargs h1
          exact snd_call0 s hop hc e1 h2 e2 h3 h4 hdst K Q hk
      · obtain ⟨f, xs, h1, h2, h3⟩ := hd
        obtain ⟨first, cap, e1, e2⟩ := hargs h1
        rcases h3 with ⟨h3, h4, h5, rfl⟩ | ⟨hs, hs', _, h3, h4, h5, h6, rfl⟩
        · exact snd_callB s hop hc e1 h2 e2 h3 h4 h5 hdst K Q hk
        · exact snd_callS s hop hc e1 h2 e2 h3 h4 h5 h6 hdst K Q hk
  | _ => rw [hop] at hd; exact hd.elim

def addrT : Op → Option Tmp
  | .load _ (.tmp t) => some t
  | .store _ (.tmp t) _ => some t
  | _ => none
def annOk (ann : Tmp → Option (Option Nat)) (ρ : Operand → AV) (o : Oper) : Prop := ∀ t q, addrT o.op = some t → ann t = some q → (ρ (.tmp t)).top = q
def sepA (ann : Tmp → Option (Option Nat)) (y x : Oper) : Bool := match addrT y.op, addrT x.op with
  | some a, some b => match ann a, ann b with
    | some p, some q => p != q
    | _, _ => false
  | _, _ => false
theorem ldAt_top {g h : Hp} {n : Nat} {ag : Bool} {X : AV} (hh : ∀ id, X.top = some id → g id = h id) : ldAt g n ag X = ldAt h n ag X := by
  cases X <;> simp only [ldAt] <;> first | rfl | (rw [hh _ rfl])
theorem stAt_top {h h' : Hp} {n : Nat} {y X : AV} (hs : stAt h n y X = some h') : ∃ id ob', X.top = some id ∧ h' = setH h id ob' ∧ ∀ g, g id = h id → stAt g n y X = some (setH g id ob') := by
  cases X with
  | ptr id off =>
    simp only [stAt] at hs
    split at hs
    · rename_i z hz
      obtain ⟨w, h1, rfl⟩ := Option.map_eq_some_iff.1 hs
      exact ⟨id, _, rfl, rfl, fun g hg => by simp only [stAt, hg, hz, h1]; rfl⟩
    · cases hs
  | ep id sz i off =>
    simp only [stAt] at hs
    split at hs
    · rename_i s l hz
      split at hs
      · rename_i hc
        obtain ⟨x, h1, h2⟩ := Option.bind_eq_some_iff.1 hs
        obtain ⟨w, h3, rfl⟩ := Option.map_eq_some_iff.1 h2
        refine ⟨id, _, rfl, rfl, fun g hg => ?_⟩
        simp only [stAt, hg, hz]
        rw [if_pos hc, h1, Option.bind_some, h3]; rfl
      · cases hs
    · cases hs
  | _ => simp [stAt] at hs
theorem D_addr {ρ : Operand → AV} {o : Oper} {h h' : Hp} {r : AV} {a : Tmp} (ha : addrT o.op = some a) (hd : D P ρ o h r h') : (h' = h ∧ ∃ n ag, ldAt h n ag (ρ (.tmp a)) = some r ∧ ∀ g, ldAt g n ag (ρ (.tmp a)) = some r → D P ρ o g r g) ∨ (∃ n v, stAt h n v (ρ (.tmp a)) = some h' ∧ ∀ g g', stAt g n v (ρ (.tmp a)) = some g' → D P ρ o g r g') := by
  unfold addrT at ha
  split at ha
  · rename_i ty t he
    cases ha
    unfold D at hd
    rw [he] at hd
    obtain ⟨⟨n, ag, h1, h2⟩, h3⟩ := hd
    exact .inl ⟨h3, n, ag, h2, fun g hg => by unfold D; rw [he]; exact ⟨⟨n, ag, h1, hg⟩, rfl⟩⟩
  · rename_i ty t v he
    cases ha
    unfold D at hd
    rw [he] at hd
    obtain ⟨n, ag, h1, h2, h3, h4, h5⟩ := hd
    exact .inr ⟨n, _, h4, fun g g' hg => by unfold D; rw [he]; exact ⟨n, ag, h1, h2, h3, hg, h5⟩⟩
  · cases ha
theorem sepA_d {ann : Tmp → Option (Option Nat)} {ρ : Operand → AV} {x y : Oper} {h h1 h2 : Hp} {rx ry : AV} (hs : sepA ann y x = true) (ay : annOk ann ρ y) (ax : annOk ann ρ x) (dy : D P ρ y h ry h1) (dx : D P ρ x h1 rx h2) : ∃ h1', D P ρ x h rx h1' ∧ D P ρ y h1' ry h2 := by
  unfold sepA at hs
  split at hs
  · rename_i a b ha hb
    split at hs
    · rename_i p q hp hq
      have hpq : p ≠ q := by simpa using hs
      have ty := ay a p ha hp
      have tx := ax b q hb hq
      have hne : ∀ i, (ρ (.tmp a)).top = some i → ∀ j, (ρ (.tmp b)).top = some j → i ≠ j := by
        intro i hi j hj e
        exact hpq (by rw [← ty, ← tx, hi, hj, e])
      rcases D_addr ha dy with ⟨rfl, n, ag, l1, k1⟩ | ⟨n, v, s1, k1⟩
      · rcases D_addr hb dx with ⟨rfl, n2, ag2, l2, k2⟩ | ⟨n2, v2, s2, k2⟩
        · exact ⟨_, dx, dy⟩
        · obtain ⟨id, ob', e1, rfl, e3⟩ := stAt_top s2
          refine ⟨_, dx, k1 _ ?_⟩
          rw [ldAt_top (h := h1) (fun i hi => by simp only [setH]; rw [if_neg (hne i hi id e1)])]
          exact l1
      · obtain ⟨id, ob', e1, rfl, e3⟩ := stAt_top s1
        rcases D_addr hb dx with ⟨rfl, n2, ag2, l2, k2⟩ | ⟨n2, v2, s2, k2⟩
        · refine ⟨h, k2 h ?_, dy⟩
          rw [ldAt_top (h := h) (fun j hj => by simp only [setH]; rw [if_neg (fun e => hne id e1 j hj e.symm)])] at l2
          exact l2
        · obtain ⟨id2, ob2, f1, rfl, f3⟩ := stAt_top s2
          have hd := hne id e1 id2 f1
          refine ⟨setH h id2 ob2, k2 _ _ (f3 h (by simp only [setH]; rw [if_neg (fun e => hd e.symm)])), ?_⟩
          rw [setH_comm hd]
          exact k1 _ _ (e3 _ (by simp only [setH]; rw [if_neg hd]))
    · cases hs
  · cases hs
def sysA (P : Program) (ann : Tmp → Option (Option Nat)) : Sys P where
  D ρ o h r h' := D P ρ o h r h' ∧ annOk ann ρ o
  cls := cls P
  sound := fun s hd hdst K Q hk => D_sound s hd.1 hdst K Q hk
  congr := fun {ρ ρ' o h h' r} hx hd => ⟨D_congr hx hd.1, fun t q h1 h2 => by
    have : Operand.tmp t ∈ o.op.operands := by
      revert h1
      cases o.op with
      | load ty x => cases x <;> simp [addrT, Op.operands]; rintro rfl; rfl
      | store ty x y => cases x <;> simp [addrT, Op.operands]; rintro rfl; exact .inl rfl
      | _ => simp [addrT]
    rw [← hx _ this]; exact hd.2 t q h1 h2⟩
  c0 := fun hc hd => ⟨(D_c0 hc hd.1).1, fun g => ⟨(D_c0 hc hd.1).2 g, hd.2⟩⟩
  c1 := fun hc hd => ⟨(D_c1 hc hd.1).1, fun g hg => ⟨(D_c1 hc hd.1).2.1 g hg, hd.2⟩⟩
  c1d := fun hc hd ht => ⟨(D_c1 hc hd.1).2.2 _ _ _ rfl ht, hd.2⟩
  c2 := fun hc hd => by
    obtain ⟨d, ob, h1, h2, h3, h4⟩ := D_c2 hc hd.1
    exact ⟨d, ob, h1, h2, h3, fun g hg => ⟨h4 g hg, hd.2⟩⟩
  sep := sepA ann
  sepd := fun hs hy hx => by
    obtain ⟨g, h1, h2⟩ := sepA_d hs hy.2 hx.2 hy.1 hx.1
    exact ⟨g, ⟨h1, hx.2⟩, h2, hy.2⟩
def sys (P : Program) : Sys P where
  D := D P
  cls := cls P
  sound := fun s hd hdst K Q hk => D_sound s hd hdst K Q hk
  congr := D_congr
  c0 := D_c0
  c1 := fun hc hd => ⟨(D_c1 hc hd).1, (D_c1 hc hd).2.1⟩
  c1d := fun hc hd ht => (D_c1 hc hd).2.2 _ _ _ rfl ht
  c2 := D_c2
  sep := fun _ _ => false
  sepd := fun hs => by cases hs

/-! ### Regions, for use -/
def RunK (P : Program) (ops : Array Oper) : List Oper → (Nat → AV) → Hp → ((Nat → AV) → Hp → Prop) → Prop
  | [], e, h, K => K e h
  | o :: l, e, h, K => ∃ r h1, DG (sys P) ops e o h r h1 ∧ RunK P ops l (putE e o.dst r) h1 K
theorem chain_of_run {ops : Array Oper} {K : (Nat → AV) → Hp → Prop} : ∀ (l : List Oper) (k : Nat) (e : Nat → AV) (h : Hp), ops.toList = ops.toList.take k ++ l → k + l.length = ops.size → RunK P ops l e h K → ∃ e' h', Chain (sys P) ops (List.range' k l.length) e h e' h' ∧ K e' h'
  | [], k, e, h, _, _, hr => ⟨e, h, ⟨rfl, rfl⟩, hr⟩
  | o :: l, k, e, h, hl, hk, hr => by
    obtain ⟨r, h1, hd, hr⟩ := hr
    have hkl : k < ops.size := by simp at hk; omega
    have ho : ops[k]? = some o := by
      rw [← Array.getElem?_toList, hl, List.getElem?_append_right (by simp; omega)]
      have : k - (ops.toList.take k).length = 0 := by simp; omega
      rw [this]; rfl
    have hl2 : ops.toList = ops.toList.take (k + 1) ++ l := by
      have e1 : ops.toList.take (k + 1) = ops.toList.take k ++ [o] := by
        rw [List.take_add_one, show ops.toList[k]? = some o by rw [Array.getElem?_toList]; exact ho]; rfl
      rw [e1]; simpa using hl
    obtain ⟨e', h', hc, hK⟩ := chain_of_run l (k + 1) _ _ hl2 (by simp at hk; omega) hr
    refine ⟨e', h', ?_, hK⟩
    rw [List.length_cons, List.range'_succ]
    exact ⟨o, r, h1, ho, hd, hc⟩
theorem awp_reg {id : Nat} {ops : Array Oper} {draw : Bool} {Q : Exit → St → Prop} {σ : St} (depth : Nat) (hm : P.follows .mixedOrders = true) (hok : okRegion (sys P) nt ops depth = true)
    (h : RunK P ops ops.toList σ.env σ.heap fun e h => Q .normal ⟨e, h⟩) : AWP P nt (.region id ops draw) Q σ := by
  obtain ⟨e', h', hc, hq⟩ := chain_of_run ops.toList 0 σ.env σ.heap (by simp) (by simp) h
  refine awp_region (S := sys P) depth hm hok (e' := e') (h' := h') ?_ hq
  rw [List.range_eq_range']
  simpa using hc

/-! ### Drawn regions whose loads and stores lie at different objects -/
def once (ops : Array Oper) : Bool := (List.range ops.size).all fun i => match ops[i]? with
  | some o => match addrT o.op with
    | some t => (ops.toList.drop i).all fun q => q.dst != some t
    | none => true
  | none => true
theorem putE_ne {e : Nat → AV} {d : Option Tmp} {r : AV} {t : Tmp} (h : d ≠ some t) : putE e d r t = e t := by
  cases d with
  | none => rfl
  | some u =>
    simp only [putE, setE]
    rw [if_neg (fun e => h (by rw [e]))]
theorem chain_keep {S : Sys P} {ops : Array Oper} {t : Tmp} {e' : Nat → AV} {h' : Hp} : ∀ (l : List Nat) (e : Nat → AV) (h : Hp), Chain S ops l e h e' h' → (∀ i ∈ l, ∀ o, ops[i]? = some o → o.dst ≠ some t) → e' t = e t
  | [], e, h, hc, _ => by obtain ⟨rfl, rfl⟩ := hc; rfl
  | i :: l, e, h, ⟨o, r, h1, ho, hd, hc⟩, hn => by
    rw [chain_keep l _ _ hc (fun j hj => hn j (List.mem_cons_of_mem _ hj))]
    have := hn i (by simp) o ho
    exact putE_ne this
theorem chainA {ann : Tmp → Option (Option Nat)} {ops : Array Oper} (honce : once ops = true) {e' : Nat → AV} {h' : Hp} (ha : ∀ t q, ann t = some q → (e' t).top = q) : ∀ (n k : Nat) (e : Nat → AV) (h : Hp), k + n = ops.size → Chain (sys P) ops (List.range' k n) e h e' h' → Chain (sysA P ann) ops (List.range' k n) e h e' h'
  | 0, k, e, h, _, hc => hc
  | n + 1, k, e, h, hk, hc => by
    rw [List.range'_succ] at hc ⊢
    obtain ⟨o, r, h1, ho, hd, hc⟩ := hc
    refine ⟨o, r, h1, ho, ?_, chainA honce ha n (k + 1) _ _ (by omega) hc⟩
    have hann : annOk ann (evE e) o := by
      intro t q h2 h3
      have h4 := (List.all_eq_true.1 honce) k (List.mem_range.2 (by omega))
      rw [ho] at h4
      simp only [h2] at h4
      have h5 : ∀ i, k ≤ i → ∀ o', ops[i]? = some o' → o'.dst ≠ some t := by
        intro i hi o' ho'
        have hm : o' ∈ ops.toList.drop k := by
          refine List.mem_of_getElem? (i := i - k) ?_
          rw [List.getElem?_drop, show k + (i - k) = i by omega, Array.getElem?_toList]; exact ho'
        have := (List.all_eq_true.1 h4) o' hm
        simpa using this
      have h6 := chain_keep _ _ _ hc (t := t) (fun i hi => h5 i (by obtain ⟨j, _, rfl⟩ := List.mem_range'.1 hi; omega))
      have h7 : putE e o.dst r t = e t := by
        have := h5 k (Nat.le_refl _) o ho
        exact putE_ne this
      show (e t).top = q
      rw [← h7, ← h6]
      exact ha t q h3
    unfold DG at hd ⊢
    cases hg : o.guard with
    | none => rw [hg] at hd; exact ⟨hd, hann⟩
    | some jw =>
      rw [hg] at hd
      obtain ⟨t, v, q1, q2, q3⟩ := hd
      exact ⟨t, v, q1, q2, q3.imp (fun x => ⟨x.1, x.2, hann⟩) id⟩
def annL : List (Tmp × Option Nat) → Tmp → Option (Option Nat)
  | [], _ => none
  | (u, q) :: l, t => if t = u then some q else annL l t
theorem annL_ok {e : Nat → AV} : ∀ {l : List (Tmp × Option Nat)}, (∀ p ∈ l, (e p.1).top = p.2) → ∀ t q, annL l t = some q → (e t).top = q
  | (u, q) :: l, hl, t, q', hh => by
    simp only [annL] at hh
    split at hh
    · rename_i e1; subst e1; cases hh; exact hl (t, q) (by simp)
    · exact annL_ok (fun p hp => hl p (by simp [hp])) t q' hh
theorem awp_regA {id : Nat} {ops : Array Oper} {draw : Bool} {Q : Exit → St → Prop} {σ : St} (l : List (Tmp × Option Nat)) (depth : Nat) (hm : P.follows .mixedOrders = true) (hok : okRegion (sysA P (annL l)) nt ops depth = true) (honce : once ops = true)
    (h : RunK P ops ops.toList σ.env σ.heap fun e h => (∀ p ∈ l, (e p.1).top = p.2) ∧ Q .normal ⟨e, h⟩) : AWP P nt (.region id ops draw) Q σ := by
  obtain ⟨e', h', hc, ha, hq⟩ := chain_of_run ops.toList 0 σ.env σ.heap (by simp) (by simp) h
  refine awp_region (S := sysA P (annL l)) depth hm hok (e' := e') (h' := h') ?_ hq
  rw [List.range_eq_range']
  refine chainA honce (annL_ok ha) _ _ _ _ (by simp) ?_
  simpa using hc

/-! ### Functions -/
def envOf (xs : List AV) : Nat → AV := fun t => xs.getD t (.raw undef)
/-- What a function hands back: its results' places. -/
def resAV (P : Program) (e : Nat → AV) (h : Hp) : List ResultVar → Option (List AV)
  | [] => some []
  | .tmp t :: l => (resAV P e h l).map (e t :: ·)
  | .cell x t :: l => match tyI P t with
    | some (n, ag) => match ldAt h n ag (e x), resAV P e h l with
      | some r, some m => some (r :: m)
      | _, _ => none
    | none => none
def outOf : List AV → AV
  | [x] => x
  | l => .tup l
theorem res_run (s : Sat nt C σ a) : ∀ (l : List ResultVar) (xs : List AV), resAV P σ.env σ.heap l = some xs →
    ∃ vs, (l.mapM (m := Sem) fun | .tmp t => pure (a.tmps.getD t undef) | .cell x t => do loadVar t (← asAddr (a.tmps.getD x undef))).run P C.W = .ok vs C.W ∧ RVs C xs vs
  | [], xs, h => by
    simp [resAV] at h; subst h
    exact ⟨[], rfl, .nil⟩
  | .tmp t :: l, xs, h => by
    simp only [resAV, Option.map_eq_some_iff] at h
    obtain ⟨ys, h, rfl⟩ := h
    obtain ⟨vs, hr, hv⟩ := res_run s l ys h
    refine ⟨a.tmps.getD t undef :: vs, ?_, .cons (s.env t) hv⟩
    rw [List.mapM_cons, Sem.run_bind]
    simp only [Sem.run_pure, Result.andThen_ok, Sem.run_bind, hr]
  | .cell x t :: l, xs, h => by
    simp only [resAV] at h
    split at h
    · rename_i n ag ht
      split at h
      · rename_i r m h1 h2
        cases h
        obtain ⟨vs, hr, hv⟩ := res_run s l m h2
        obtain ⟨b, off, c, hx, hrd, hn, hc, hag⟩ := ldAt_ok s (s.env x) h1
        obtain ⟨v, hrun, hv2⟩ := run_loadVar ht hrd hn hc hag
        refine ⟨v :: vs, ?_, .cons hv2 hv⟩
        rw [List.mapM_cons, Sem.run_bind]
        have ha : (asAddr (a.tmps.getD x undef)).run P C.W = .ok ⟨b, off, none⟩ C.W := by rw [hx]; rfl
        simp only [Sem.run_bind, ha, Result.andThen_ok, hrun, hr, Sem.run_pure]
      · cases h
    · cases h
theorem results_run (s : Sat nt C σ a) {fn : Func} {xs : List AV} (h : resAV P σ.env σ.heap fn.results.toList = some xs) : ∃ v, (results fn a.tmps).run P C.W = .ok v C.W ∧ RV C (outOf xs) v := by
  obtain ⟨vs, hr, hv⟩ := res_run s _ _ h
  have hlen := hv.len
  have hm : (fn.results.mapM (m := Sem) fun | .tmp t => pure (a.tmps.getD t undef) | .cell x t => do loadVar t (← asAddr (a.tmps.getD x undef))).run P C.W = .ok vs.toArray C.W := by
    rw [← Array.toArray_toList (xs := fn.results), List.mapM_toArray, Sem.run_map, hr]; rfl
  unfold results
  rw [Sem.run_bind]
  refine ⟨if h : vs.toArray.size = 1 then vs.toArray[0] else .tuple vs.toArray, ?_, ?_⟩
  · erw [hm]; rfl
  · cases hv with
    | nil => exact .tup .nil
    | cons h1 h2 =>
      cases h2 with
      | nil => simpa [outOf] using h1
      | cons h3 h4 => simpa [outOf] using RV.tup (.cons h1 (.cons h3 h4))

theorem calls_of_awp {f : FuncId} {fn : Func} {c : Code} {xs : List AV} {h h' : Hp} {r : AV} (hf : P.funcs[f]? = some fn) (hb : fn.body = some c) (hnt : fn.ntmps = nt) (hxs : xs.length ≤ nt) (hbig : ∀ id, (h id).isSome = true → 100000 ≤ id)
    (hw : AWP P nt c (fun e σ' => (e = .normal ∨ e = .ret) ∧ ∃ σ2 ys, Weak σ' σ2 ∧ resAV P σ2.env σ2.heap fn.results.toList = some ys ∧ outOf ys = r ∧ σ2.heap = h') ⟨envOf xs, h⟩) : CallD P f xs h r h' := by
  intro C vs hC hvs
  refine calls_of_wp hf hb ?_
  have hl := hvs.len
  have hs : Sat nt C ⟨envOf xs, h⟩ { tmps := vs.toArray ++ Array.replicate (fn.ntmps - vs.toArray.size) undef, defers := [] } := by
    refine ⟨rfl, by simp [hnt]; omega, fun t => ?_, hC⟩
    simp only [envOf, Array.getD_eq_getD_getElem?, List.getD_eq_getElem?_getD]
    by_cases ht : t < xs.length
    · obtain ⟨v, h1, h2⟩ := hvs.at (List.getElem?_eq_getElem ht)
      rw [Array.getElem?_append_left (by simp; omega), List.getElem?_toArray, h1, List.getElem?_eq_getElem ht]
      exact h2
    · rw [List.getElem?_eq_none (by omega)]
      rw [Array.getElem?_append_right (by simp; omega), Array.getElem?_replicate]
      split <;> exact .raw _
  refine wp_mono (hw C C _ (.refl C) hs) ?_
  rintro e a' W' ⟨σ', C', rfl, ⟨he, σ2, ys, hwk, hres, rfl, rfl⟩, ex, sat⟩
  obtain ⟨C2, hW, ex2, sat2⟩ := hwk nt C' a' sat
  obtain ⟨v, hr, hv⟩ := results_run sat2 hres
  rw [hW] at hr
  have ex3 := ex.trans ex2
  have hkeep : ∀ id p, C.ι id = some p → C2.ι id = some p := fun id p hp => by
    refine ex3.ι id p (hbig id ?_) hp
    cases hi : h id with
    | none => rw [hC.no id hi] at hp; cases hp
    | some _ => rfl
  rcases he with rfl | rfl <;> exact ⟨sat.defers, v, hr, v, C2, rfl, hW, ex3, sat2.heap, hv, hkeep⟩

def layB (P : Program) (t : TypeId) (zs : List AV) : Bool := match P.underlying t with
  | some (.struct fs) => fs.size == zs.length && (List.range fs.size).all fun i => match fs[i]?, zs[i]? with
    | some d, some z => d.offset == AV.sizes (zs.take i) && (P.info? d.type).map (·.size) == some z.size
    | _, _ => true
  | _ => false
theorem layIs_of {t : TypeId} {zs : List AV} (h : layB P t zs = true) : layIs P t zs := by
  unfold layB at h
  split at h
  · rename_i fs hu
    simp only [Bool.and_eq_true, beq_iff_eq] at h
    refine ⟨fs, hu, h.1, fun i d z hd hz => ?_⟩
    have := (List.all_eq_true.1 h.2) i (List.mem_range.2 (Array.getElem?_eq_some_iff.1 hd).1)
    rw [hd, hz] at this
    simpa using this
  · cases h
end Go.Proofs.YtngeckkebejhiaaDoor.Asl
