/- The row and the card of the statement WireCut: the contract of its function, and what came in. -/
import Derived.Test.YtejeemhenoobjaaDoorRows
import Derived.Test.YtejeemhenoobjaaDoorCards
import Derived.Test.YtejeemhenoobjaaDoorTie
import Derived.WalkKit
import Derived.ProofKit
import Derived.OpenShut
import Derived.ShutString
import Derived.ChangeOld
import Derived.Below
import Derived.SizedLaws
import Derived.Carry
import Derived.LaidLaws
import Derived.LaidHandle
import Derived.Deep.DeepHandedRow
import Derived.Test.YtejeemhenoobjaaDoorZW1418
namespace Go.Proofs.YtejeemhenoobjaaDoor.wireCut
open Go.ChangeShapes Go.WideShapes Go.ChangeAt Go.RowKit
open Go.ChangeMaps (open_string shut_string)
open Go.Proofs.YtejeemhenoobjaaDoor.Asl
set_option linter.unusedVariables false
set_option linter.unusedSimpArgs false
theorem own : ownKnob Tryd.prog.godebug = none := by kernel_rfl
theorem laidOut : laidOutB Tryd.prog = true := by kernel_rfl
theorem gEt : Tryd.prog.globalNamed "errors.errorType" = some 0 := by kernel_rfl
theorem gRt : (Tryd.prog.cutTypes.find? (·.1 == "internal/reflectlite.rtype")).map (·.2) = some 136 := by kernel_rfl
theorem gOne : ((List.range 179).filter fun t => Tryd.prog.rowNamed t [101, 114, 114, 111, 114]) = [33] := by kernel_rfl
theorem gSize : Tryd.prog.types.size = 179 := by kernel_rfl
/-- What the row's list gives: the variable's cell. -/
theorem glob_in {W : World} (h : laidMetH Tryd.prog Rows.wireCutRow.laid W) : ∀ p ∈ globs, W.cell? ⟨p.1, 0, none⟩ = some p.2 := by
  have h' : laidMet Tryd.prog [] W ∧ handlesMet Tryd.prog Rows.wireCutRow.laid W := h
  obtain ⟨name, u, ty, e1, e2, e3, e4, e5⟩ := h'.2 _ (List.mem_singleton.2 rfl)
  have en : name = [101, 114, 114, 111, 114] := (Option.some.inj e1).symm
  subst en
  obtain rfl := Option.some.inj (gRt.symm.trans e2)
  have hm : ty ∈ (List.range 179).filter fun t => Tryd.prog.rowNamed t [101, 114, 114, 111, 114] := List.mem_filter.2 ⟨List.mem_range.2 (by rw [← gSize]; exact e3), e4⟩
  rw [gOne] at hm
  obtain rfl := List.mem_singleton.1 hm
  have hh : typeHandle Tryd.prog 33 = .pointer (some ⟨1, 33, none⟩) := by kernel_rfl
  rw [hh] at e5
  intro p hp
  obtain rfl := List.mem_singleton.1 hp
  simpa using World.var?_cell gEt e5 0
/-- A world that meets the condition: the settled one, the variable's cell laid. -/
noncomputable def laidWorld (os : Os) : World :=
  { World.holding Tryd.prog os ⟨#[], #[], []⟩ with heap := (World.holding Tryd.prog os ⟨#[], #[], []⟩).heap.modify 0 fun
      | .cells _ t frozen => .cells #[.iface 136 (.agg #[.pointer (some ⟨1, 33, none⟩)])] t frozen
      | o => o }
theorem laid_met (os : Os) : laidMetH Tryd.prog Rows.wireCutRow.laid ((laidWorld os).forCall (fun _ _ => 0) ⟨#[], #[.agg #[.string ByteArray.empty, .slice none 0 0, .slice none 0 0], .int .i64 0, .slice none 0 0], []⟩).memory := laidMetH_of_parts (laidMet_nil _ _) (by kernel_rfl)
theorem reads (os : Os) {H : Type} (enc : TypeId × Value → H) : ∃ places, DataW.whole enc Tryd.prog ((laidWorld os).forCall (fun _ _ => 0) ⟨#[], #[.agg #[.string ByteArray.empty, .slice none 0 0, .slice none 0 0], .int .i64 0, .slice none 0 0], []⟩).memory Tryd.f3.params.toList Rows.wireCutSpec.vars false (#[.agg #[.string ByteArray.empty, .slice none 0 0, .slice none 0 0], .int .i64 0, .slice none 0 0] : Array Value).toList 8 = some ([.agg [.lit (.string []), .nil, .nil], .lit (.int .i64 0), .nil], [], places) :=
  ⟨[], by kernel_rfl⟩
set_option maxRecDepth 100000 in
theorem lifted (os : Os) (started : os.Started) (H : Type) (enc : TypeId × Value → H) (F : Stop.Interp) :
    ReturnsInHanded {} Tryd.checked os 3 .any ((OpenSpec.ofChange Rows.wireCutSpec).preRow enc Tryd.prog Tryd.f3 Rows.wireCutRow.domain false Rows.wireCutRow.laid) (((OpenSpec.ofChange Rows.wireCutSpec).at F).post enc Tryd.prog Tryd.f3 false true false false) := by
  obtain ⟨places, hx⟩ := reads os enc
  refine returnsInHanded_of_row (C := Tryd.checked) (s := (OpenSpec.ofChange Rows.wireCutSpec)) own started (by kernel_rfl) Tryd.func3
    (witness_row_at (enc := enc) (C := Tryd.checked) false (laidWorld os) #[.agg #[.string ByteArray.empty, .slice none 0 0, .slice none 0 0], .int .i64 0, .slice none 0 0] rfl (by kernel_rfl) (by kernel_rfl) (by kernel_rfl)
      (OpenSpec.preRow_of_cond 8 hx (by kernel_rfl) (fun k hk => by cases hk) (by kernel_rfl) (laid_met os))) ?_
  intro W base args ds gs before hval0 hW hcnd hcond hsz0 hL _ _
  have hsz : (DataW.weightsEach Tryd.prog (Tryd.f3.params.toList ++ Rows.wireCutSpec.plain.varTypes Tryd.prog) (ds ++ gs)).all (· ≤ reachBytes) = true := hsz0
  have hval : ∀ (j : Nat) t v, Tryd.f3.params[j]? = some t → args[j]? = some v → Value.okWide Tryd.prog W .any base t v := hval0
  have hW' := hW
  obtain ⟨p, q, hA0, hV, rfl, hfz, hnd⟩ := hW
  have hA : DataW.TrodAll enc Tryd.prog W 0 (fun _ => true) true Tryd.f3.params.toList args.toList ds p := hA0
  rw [Tryd.params3] at hA hval hsz
  obtain ⟨v0, vs0, d0, ds0, p0, q0, hargs, rfl, rfl, h0, r0⟩ := trodAll_cons hA
  obtain ⟨v1, vs1, d1, ds1, p1, q1, rfl, rfl, rfl, h1, r1⟩ := trodAll_cons r0
  obtain ⟨v2, vs2, d2, ds2, p2, q2, rfl, rfl, rfl, h2, r2⟩ := trodAll_cons r1
  obtain ⟨rfl, rfl, rfl⟩ := trodAll_nil r2
  obtain rfl : args = #[v0, v1, v2] := by cases args; simp_all
  obtain ⟨rfl, rfl⟩ := trodVars_none hV
  have lt0 : ∀ x ∈ p0, x.block < W.heap.size := by obtain ⟨m, hm⟩ := h0; exact DataW.trod_lt m _ _ _ hm
  obtain ⟨x0, hK0, ok0⟩ := rda_arg (rda_struct (l := [(9, 0), (22, 1), (23, 2)]) (f := id) (m := id) Tryd.underlying25 rfl (by kernel_rfl) (rdfa_cons (off := 0) (sz := 1) (by kernel_rfl) (rda_string Tryd.underlying9) (rdfa_cons (off := 1) (sz := 1) (by kernel_rfl) (rda_slice (b := 96) (sz := 8) Tryd.underlying22 (by kernel_rfl) (by decide) (by kernel_rfl) (by decide) (rda_struct (l := [(3, 0), (9, 1), (3, 2), (9, 3), (9, 4), (9, 5), (3, 6), (4, 7)]) (f := id) (m := id) Tryd.underlying52 rfl (by kernel_rfl) (rdfa_cons (off := 0) (sz := 1) (by kernel_rfl) (rda_int Tryd.underlying3) (rdfa_cons (off := 1) (sz := 1) (by kernel_rfl) (rda_string Tryd.underlying9) (rdfa_cons (off := 2) (sz := 1) (by kernel_rfl) (rda_int Tryd.underlying3) (rdfa_cons (off := 3) (sz := 1) (by kernel_rfl) (rda_string Tryd.underlying9) (rdfa_cons (off := 4) (sz := 1) (by kernel_rfl) (rda_string Tryd.underlying9) (rdfa_cons (off := 5) (sz := 1) (by kernel_rfl) (rda_string Tryd.underlying9) (rdfa_cons (off := 6) (sz := 1) (by kernel_rfl) (rda_int Tryd.underlying3) (rdfa_one (off := 7) (rda_bool Tryd.underlying4))))))))) (fun _ => rfl)) (fun _ => by simp)) (rdfa_one (off := 2) (rda_slice (b := 40) (sz := 4) Tryd.underlying23 (by kernel_rfl) (by decide) (by kernel_rfl) (by decide) (rda_struct (l := [(3, 0), (3, 1), (9, 2), (4, 3)]) (f := id) (m := id) Tryd.underlying54 rfl (by kernel_rfl) (rdfa_cons (off := 0) (sz := 1) (by kernel_rfl) (rda_int Tryd.underlying3) (rdfa_cons (off := 1) (sz := 1) (by kernel_rfl) (rda_int Tryd.underlying3) (rdfa_cons (off := 2) (sz := 1) (by kernel_rfl) (rda_string Tryd.underlying9) (rdfa_one (off := 3) (rda_bool Tryd.underlying4))))) (fun _ => rfl)) (fun _ => by simp))))) (fun _ => rfl)) hsz h0 (j := 0) rfl rfl
  obtain ⟨cs0, rfl, hn0⟩ := okWide_struct Tryd.underlying25 (hval 0 25 v0 rfl rfl)
  obtain ⟨x1, rfl, rfl, rfl, ok1⟩ := open_int Tryd.underlying3 (hval 1 3 v1 rfl rfl) h1
  have lt2 : ∀ x ∈ p2, x.block < W.heap.size := by obtain ⟨m, hm⟩ := h2; exact DataW.trod_lt m _ _ _ hm
  obtain ⟨x2, hK2, ok2⟩ := rda_arg (rda_slice (b := 1) (sz := 1) Tryd.underlying26 (by kernel_rfl) (by decide) (by kernel_rfl) (by decide) (rda_int Tryd.underlying5) (fun _ => by simp)) hsz h2 (j := 2) rfl rfl
  obtain ⟨a2, len2, cap2, rfl⟩ := okWide_slice Tryd.underlying26 (hval 2 26 v2 rfl rfl)
  clear hA0 hval0 hsz0 hsz
  refine (law_calls (gl_in (glob_in hL)) (row_WireCut x0 x1 _ (by have := ok0.2.1.2.1; (try simp only [id] at this ⊢); omega) (by have := ok0.2.2.2.1; (try simp only [id] at this ⊢); omega) (fun y h => ⟨(by have := wf_i64 ((ok0.2.1.2.2 y h).1); unfold inRg; (try simp only [id] at this ⊢); omega), (by have := wf_i64 ((ok0.2.1.2.2 y h).2.2.1); unfold inRg; (try simp only [id] at this ⊢); omega), (by have := wf_i64 ((ok0.2.1.2.2 y h).2.2.2.2.2.2.1); unfold inRg; (try simp only [id] at this ⊢); omega)⟩) (fun y h => ⟨(by have := wf_i64 ((ok0.2.2.2.2 y h).1); unfold inRg; (try simp only [id] at this ⊢); omega), (by have := wf_i64 ((ok0.2.2.2.2 y h).2.1); unfold inRg; (try simp only [id] at this ⊢); omega)⟩) (by have := wf_i64 (ok1); unfold inRg; (try simp only [id] at this ⊢); omega) (fun b h => by have := wf_u8 (ok2.2.2 b h); omega) (by have := ok2.2.1; omega)) (.cons (rv_struct hK0) (.cons (.raw _) (.cons (rv_slice hK2) .nil)))).mono ?_
  rintro e W' ⟨rfl, bel0⟩
  have bel : Below W.heap.size W W' := bel0
  exact ⟨_, rfl, _, _, _, [], _, [], hW', trodAll_mk1 (shut_bool Tryd.underlying4 _), (trodAll_cons_mk (Below.trod laidOut (by kernel_rfl) (of_decide_eq_true (by kernel_rfl)) h0 bel lt0) (trodAll_cons_mk (shut_int Tryd.underlying3 ok1) (trodAll_cons_mk (Below.trod laidOut (by kernel_rfl) (of_decide_eq_true (by kernel_rfl)) h2 bel lt2) trodAll_mk0))), rfl, bel.frame _, fun h => by cases h⟩
theorem said : Rows.WireCutSaid :=
  OpenClaim.holds_of_cond 3 Tryd.f3 rfl rfl rfl rfl rfl rfl rfl ⟨rfl, rfl, rfl, rfl, rfl⟩ rfl rfl rfl rfl rfl (by kernel_rfl) Tryd.func3 (by kernel_rfl)
    (of_decide_eq_true (by kernel_rfl)) (by unfold Func.isWrapper; first | (rw [if_pos (by decide +kernel)]; kernel_rfl) | (rw [if_neg (by decide +kernel)]; exact ⟨rfl, rfl⟩))
    (fun os started H enc _ F => by rw [OpenClaim.pre_eq_preRow]; exact lifted os started H enc F)
theorem plain (f : FuncId) (fn : Func) (hf : Tryd.pinned.checked.prog.funcNamed "conductor/conductorlaw14.WireCut" = some f) (hfn : Tryd.pinned.checked.prog.funcs[f]? = some fn) :
    true = Tryd.pinned.checked.prog.looks [] ∧ ∀ (j : Nat) t, fn.params[j]? = some t → Tryd.pinned.checked.prog.wantsStandIn t = false := by
  obtain rfl : f = 3 := Option.some.inj ((show Tryd.prog.funcNamed "conductor/conductorlaw14.WireCut" = some 3 by kernel_rfl).symm.trans hf) |>.symm
  obtain rfl : fn = Tryd.f3 := (Option.some.inj (Tryd.func3.symm.trans hfn)).symm
  refine ⟨by kernel_rfl, fun j t ht => ?_⟩
  rw [Tryd.params3] at ht
  have hm := Array.mem_of_getElem? ht
  have hall : ∀ t ∈ (#[25, 3, 26] : Array TypeId), Tryd.prog.wantsStandIn t = false := by
    intro t ht
    simp only [List.mem_toArray, List.mem_cons, List.not_mem_nil, or_false] at ht
    rcases ht with rfl | rfl | rfl
    all_goals kernel_rfl
  exact hall t hm
theorem card : Rows.WireCutCardSaid :=
  Claim7.holds_tied_plain_at .later [] _ _ _ _ said (fun _ h => by cases h) (by kernel_rfl) (fun _ h => by cases h) wireCut_row_tie rfl ⟨rfl, rfl⟩ (by kernel_rfl) rfl plain (by kernel_rfl)
end Go.Proofs.YtejeemhenoobjaaDoor.wireCut
namespace Go.Proofs.YtejeemhenoobjaaDoor
/-- The card, under a short name, for the claim. -/
theorem wireCutCard_holds : Rows.WireCutCardSaid := wireCut.card
end Go.Proofs.YtejeemhenoobjaaDoor

