/- The row of the statement EntityForms: the contract of its function, and what came in. -/
import Derived.Test.YtdbdajmgfajcpaaRows
import Derived.WalkKit
import Derived.ProofKit
import Derived.OpenShut
import Derived.ShutString
import Derived.ChangeOld
import Derived.Below
import Derived.SizedLaws
import Derived.Carry
import Derived.Test.YtdbdajmgfajcpaaZ16
namespace Go.Proofs.Ytdbdajmgfajcpaa.entityForms
open Go.ChangeShapes Go.WideShapes Go.ChangeAt Go.RowKit
open Go.ChangeMaps (open_string shut_string)
open Go.Proofs.Ytdbdajmgfajcpaa.Asl
set_option linter.unusedVariables false
set_option linter.unusedSimpArgs false
theorem own : ownKnob Try.prog.godebug = none := by kernel_rfl
theorem laidOut : laidOutB Try.prog = true := by kernel_rfl
set_option maxRecDepth 100000 in
theorem lifted (os : Os) (started : os.Started) (H : Type) (enc : TypeId × Value → H) :
    ReturnsInHanded {} Try.checked os 10 .any (Rows.entityFormsSpec.pre6 enc Try.prog Try.f10 Rows.entityFormsRow.domain false) (Rows.entityFormsSpec.post enc Try.prog Try.f10 false true false false) := by
  refine returnsInHanded_of_change_sized (C := Try.checked) own started (by kernel_rfl) Try.func10
    (ChangeSpec.witness6 (enc := enc) (C := Try.checked) false ⟨#[], #[.agg #[.string ByteArray.empty, .int .u64 0, .int .i64 0, .string ByteArray.empty, .int .u64 0], .agg #[.int .i64 0, .string ByteArray.empty, .string ByteArray.empty, .int .u64 0], .slice none 0 0, .slice none 0 0], []⟩ 8 (by kernel_rfl) (by kernel_rfl) (by kernel_rfl) (by kernel_rfl)) ?_
  intro W base args ds gs before hval0 hW hcnd hsz0 _
  have hsz : (DataW.weightsEach Try.prog (Try.f10.params.toList ++ Rows.entityFormsSpec.plain.varTypes Try.prog) (ds ++ gs)).all (· ≤ reachBytes) = true := hsz0
  have hval : ∀ (j : Nat) t v, Try.f10.params[j]? = some t → args[j]? = some v → Value.okWide Try.prog W .any base t v := hval0
  have hW' := hW
  obtain ⟨p, q, hA0, hV, rfl, hfz, hnd⟩ := hW
  have hA : DataW.TrodAll enc Try.prog W 0 (fun _ => true) true Try.f10.params.toList args.toList ds p := hA0
  rw [Try.params10] at hA hval hsz
  obtain ⟨v0, vs0, d0, ds0, p0, q0, hargs, rfl, rfl, h0, r0⟩ := trodAll_cons hA
  obtain ⟨v1, vs1, d1, ds1, p1, q1, rfl, rfl, rfl, h1, r1⟩ := trodAll_cons r0
  obtain ⟨v2, vs2, d2, ds2, p2, q2, rfl, rfl, rfl, h2, r2⟩ := trodAll_cons r1
  obtain ⟨v3, vs3, d3, ds3, p3, q3, rfl, rfl, rfl, h3, r3⟩ := trodAll_cons r2
  obtain ⟨rfl, rfl, rfl⟩ := trodAll_nil r3
  obtain rfl : args = #[v0, v1, v2, v3] := by cases args; simp_all
  obtain ⟨rfl, rfl⟩ := trodVars_none hV
  have lt0 : ∀ x ∈ p0, x.block < W.heap.size := by obtain ⟨m, hm⟩ := h0; exact DataW.trod_lt m _ _ _ hm
  obtain ⟨x0, hK0, ok0⟩ := rda_arg (rda_struct (l := [(9, 0), (22, 1), (3, 2), (9, 3), (22, 4)]) (f := id) (m := id) Try.underlying49 rfl (by kernel_rfl) (rdfa_cons (off := 0) (sz := 1) (by kernel_rfl) (rda_string Try.underlying9) (rdfa_cons (off := 1) (sz := 1) (by kernel_rfl) (rda_int Try.underlying22) (rdfa_cons (off := 2) (sz := 1) (by kernel_rfl) (rda_int Try.underlying3) (rdfa_cons (off := 3) (sz := 1) (by kernel_rfl) (rda_string Try.underlying9) (rdfa_one (off := 4) (rda_int Try.underlying22)))))) (fun _ => rfl)) hsz h0 (j := 0) rfl rfl
  obtain ⟨cs0, rfl, hn0⟩ := okWide_struct Try.underlying49 (hval 0 49 v0 rfl rfl)
  have lt1 : ∀ x ∈ p1, x.block < W.heap.size := by obtain ⟨m, hm⟩ := h1; exact DataW.trod_lt m _ _ _ hm
  obtain ⟨x1, hK1, ok1⟩ := rda_arg (rda_struct (l := [(3, 0), (9, 1), (9, 2), (22, 3)]) (f := id) (m := id) Try.underlying24 rfl (by kernel_rfl) (rdfa_cons (off := 0) (sz := 1) (by kernel_rfl) (rda_int Try.underlying3) (rdfa_cons (off := 1) (sz := 1) (by kernel_rfl) (rda_string Try.underlying9) (rdfa_cons (off := 2) (sz := 1) (by kernel_rfl) (rda_string Try.underlying9) (rdfa_one (off := 3) (rda_int Try.underlying22))))) (fun _ => rfl)) hsz h1 (j := 1) rfl rfl
  obtain ⟨cs1, rfl, hn1⟩ := okWide_struct Try.underlying24 (hval 1 24 v1 rfl rfl)
  have lt2 : ∀ x ∈ p2, x.block < W.heap.size := by obtain ⟨m, hm⟩ := h2; exact DataW.trod_lt m _ _ _ hm
  obtain ⟨x2, hK2, ok2⟩ := rda_arg (rda_slice (b := 48) (sz := 4) Try.underlying52 (by kernel_rfl) (by decide) (by kernel_rfl) (by decide) (rda_struct (l := [(9, 0), (106, 1)]) (f := id) (m := id) Try.underlying108 rfl (by kernel_rfl) (rdfa_cons (off := 0) (sz := 1) (by kernel_rfl) (rda_string Try.underlying9) (rdfa_one (off := 1) (rda_struct (l := [(3, 0), (2, 1), (9, 2)]) (f := id) (m := id) Try.underlying106 rfl (by kernel_rfl) (rdfa_cons (off := 0) (sz := 1) (by kernel_rfl) (rda_int Try.underlying3) (rdfa_cons (off := 1) (sz := 1) (by kernel_rfl) (rda_int Try.underlying2) (rdfa_one (off := 2) (rda_string Try.underlying9)))) (fun _ => rfl)))) (fun _ => rfl)) (fun _ => by simp)) hsz h2 (j := 2) rfl rfl
  obtain ⟨a2, len2, cap2, rfl⟩ := okWide_slice Try.underlying52 (hval 2 52 v2 rfl rfl)
  have lt3 : ∀ x ∈ p3, x.block < W.heap.size := by obtain ⟨m, hm⟩ := h3; exact DataW.trod_lt m _ _ _ hm
  obtain ⟨x3, hK3, ok3⟩ := rda_arg (rda_slice (b := 1) (sz := 1) Try.underlying41 (by kernel_rfl) (by decide) (by kernel_rfl) (by decide) (rda_int Try.underlying5) (fun _ => by simp)) hsz h3 (j := 3) rfl rfl
  obtain ⟨a3, len3, cap3, rfl⟩ := okWide_slice Try.underlying41 (hval 3 41 v3 rfl rfl)
  clear hA0 hval0 hsz0 hsz
  refine (law_calls (gl_none rfl _) (row_EntityForms x0 x1 x2 _ ok0.1 ok0.2.2.2.1 (by have := wf_u64 ok0.2.1; (try simp only [id] at this); omega) (by have := wf_u64 ok0.2.2.2.2; (try simp only [id] at this); omega) ok1.2.1 ok1.2.2.1 (by have := wf_u64 ok1.2.2.2; (try simp only [id] at this); omega) ok2.2.1 (fun x h => ⟨(ok2.2.2 x h).1, (ok2.2.2 x h).2.2.2, (wf_i64 (ok2.2.2 x h).2.2.1).1, by have := (wf_i64 (ok2.2.2 x h).2.2.1).2; (try simp only [id, vof] at this ⊢); omega⟩) (fun b h => by have := wf_u8 (ok3.2.2 b h); omega) (by have := ok3.2.1; omega)) (.cons (rv_struct hK0) (.cons (rv_struct hK1) (.cons (rv_slice hK2) (.cons (rv_slice hK3) .nil))))).mono ?_
  rintro e W' ⟨rfl, bel0⟩
  have bel : Below W.heap.size W W' := bel0
  exact ⟨_, rfl, _, _, _, [], _, [], hW', trodAll_mk1 (shut_bool Try.underlying4 _), (trodAll_cons_mk (Below.trod laidOut (by kernel_rfl) (of_decide_eq_true (by kernel_rfl)) h0 bel lt0) (trodAll_cons_mk (Below.trod laidOut (by kernel_rfl) (of_decide_eq_true (by kernel_rfl)) h1 bel lt1) (trodAll_cons_mk (Below.trod laidOut (by kernel_rfl) (of_decide_eq_true (by kernel_rfl)) h2 bel lt2) (trodAll_cons_mk (Below.trod laidOut (by kernel_rfl) (of_decide_eq_true (by kernel_rfl)) h3 bel lt3) trodAll_mk0)))), rfl, bel.frame _, fun h => by cases h⟩
theorem over : Rows.entityFormsRow.holds Try.pinned (OpenSpec.ofChange Rows.entityFormsSpec) :=
  OpenClaim.holds_of_wide 10 Try.f10 rfl rfl rfl rfl rfl rfl rfl ⟨rfl, rfl, rfl, rfl, rfl⟩ rfl rfl rfl rfl rfl (by kernel_rfl) Try.func10 (by kernel_rfl)
    (of_decide_eq_true (by kernel_rfl)) (by unfold Func.isWrapper; first | (rw [if_pos (by decide +kernel)]; kernel_rfl) | (rw [if_neg (by decide +kernel)]; exact ⟨rfl, rfl⟩))
    (fun os started H enc _ => lifted os started H enc)
end Go.Proofs.Ytdbdajmgfajcpaa.entityForms
namespace Go.Proofs.Ytdbdajmgfajcpaa
/-- The row, under a short name, for the claim. -/
theorem entityForms_holds : Rows.EntityFormsSaid := entityForms.over
end Go.Proofs.Ytdbdajmgfajcpaa

