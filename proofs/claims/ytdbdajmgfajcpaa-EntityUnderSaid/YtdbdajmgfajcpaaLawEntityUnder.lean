/- The row of the statement EntityUnder: the contract of its function, and what came in. -/
import Derived.Test.YtdbdajmgfajcpaaRows
import Derived.Test.YtdbdajmgfajcpaaE8
import Derived.WalkKit
import Derived.ProofKit
import Derived.OpenShut
import Derived.ShutString
import Derived.ChangeOld
import Derived.Below
import Derived.SizedLaws
import Derived.Carry
namespace Go.Proofs.Ytdbdajmgfajcpaa.entityUnder
open Go.ChangeShapes Go.WideShapes Go.ChangeAt Go.RowKit
open Go.ChangeMaps (open_string shut_string)
open Go.Proofs.Ytdbdajmgfajcpaa.Asl
set_option linter.unusedVariables false
theorem own : ownKnob Try.prog.godebug = none := by kernel_rfl
theorem laidOut : laidOutB Try.prog = true := by kernel_rfl
set_option maxRecDepth 100000 in
theorem lifted (os : Os) (started : os.Started) (H : Type) (enc : TypeId × Value → H) :
    ReturnsInHanded {} Try.checked os 4 .any (Rows.entityUnderSpec.pre6 enc Try.prog Try.f4 Rows.entityUnderRow.domain false) (Rows.entityUnderSpec.post enc Try.prog Try.f4 false true false false) := by
  refine returnsInHanded_of_change_sized (C := Try.checked) own started (by kernel_rfl) Try.func4
    (ChangeSpec.witness6 (enc := enc) (C := Try.checked) false ⟨#[], #[.agg #[.int .u8 0, .string ByteArray.empty, .string ByteArray.empty, .string ByteArray.empty, .string ByteArray.empty, .int .u64 0, .int .u64 0, .int .u64 0], .agg #[.int .u8 0, .string ByteArray.empty, .string ByteArray.empty, .string ByteArray.empty, .string ByteArray.empty, .int .u64 0, .int .u64 0, .int .u64 0], .int .i64 0], []⟩ 8 (by kernel_rfl) (by kernel_rfl) (by kernel_rfl) (by kernel_rfl)) ?_
  intro W base args ds gs before hval0 hW hcnd hsz0 _
  have hsz : (DataW.weightsEach Try.prog (Try.f4.params.toList ++ Rows.entityUnderSpec.plain.varTypes Try.prog) (ds ++ gs)).all (· ≤ reachBytes) = true := hsz0
  have hval : ∀ (j : Nat) t v, Try.f4.params[j]? = some t → args[j]? = some v → Value.okWide Try.prog W .any base t v := hval0
  have hW' := hW
  obtain ⟨p, q, hA0, hV, rfl, hfz, hnd⟩ := hW
  have hA : DataW.TrodAll enc Try.prog W 0 (fun _ => true) true Try.f4.params.toList args.toList ds p := hA0
  rw [Try.params4] at hA hval hsz
  obtain ⟨v0, vs0, d0, ds0, p0, q0, hargs, rfl, rfl, h0, r0⟩ := trodAll_cons hA
  obtain ⟨v1, vs1, d1, ds1, p1, q1, rfl, rfl, rfl, h1, r1⟩ := trodAll_cons r0
  obtain ⟨v2, vs2, d2, ds2, p2, q2, rfl, rfl, rfl, h2, r2⟩ := trodAll_cons r1
  obtain ⟨rfl, rfl, rfl⟩ := trodAll_nil r2
  obtain rfl : args = #[v0, v1, v2] := by cases args; simp_all
  obtain ⟨rfl, rfl⟩ := trodVars_none hV
  have lt0 : ∀ x ∈ p0, x.block < W.heap.size := by obtain ⟨m, hm⟩ := h0; exact DataW.trod_lt m _ _ _ hm
  obtain ⟨x0, hK0, ok0⟩ := rda_arg (rda_struct (l := [(5, 0), (9, 1), (9, 2), (9, 3), (9, 4), (22, 5), (22, 6), (22, 7)]) (f := id) (m := id) Try.underlying27 rfl (by kernel_rfl) (rdfa_cons (off := 0) (sz := 1) (by kernel_rfl) (rda_int Try.underlying5) (rdfa_cons (off := 1) (sz := 1) (by kernel_rfl) (rda_string Try.underlying9) (rdfa_cons (off := 2) (sz := 1) (by kernel_rfl) (rda_string Try.underlying9) (rdfa_cons (off := 3) (sz := 1) (by kernel_rfl) (rda_string Try.underlying9) (rdfa_cons (off := 4) (sz := 1) (by kernel_rfl) (rda_string Try.underlying9) (rdfa_cons (off := 5) (sz := 1) (by kernel_rfl) (rda_int Try.underlying22) (rdfa_cons (off := 6) (sz := 1) (by kernel_rfl) (rda_int Try.underlying22) (rdfa_one (off := 7) (rda_int Try.underlying22))))))))) (fun _ => rfl)) hsz h0 (j := 0) rfl rfl
  obtain ⟨cs0, rfl, hn0⟩ := okWide_struct Try.underlying27 (hval 0 27 v0 rfl rfl)
  have lt1 : ∀ x ∈ p1, x.block < W.heap.size := by obtain ⟨m, hm⟩ := h1; exact DataW.trod_lt m _ _ _ hm
  obtain ⟨x1, hK1, ok1⟩ := rda_arg (rda_struct (l := [(5, 0), (9, 1), (9, 2), (9, 3), (9, 4), (22, 5), (22, 6), (22, 7)]) (f := id) (m := id) Try.underlying27 rfl (by kernel_rfl) (rdfa_cons (off := 0) (sz := 1) (by kernel_rfl) (rda_int Try.underlying5) (rdfa_cons (off := 1) (sz := 1) (by kernel_rfl) (rda_string Try.underlying9) (rdfa_cons (off := 2) (sz := 1) (by kernel_rfl) (rda_string Try.underlying9) (rdfa_cons (off := 3) (sz := 1) (by kernel_rfl) (rda_string Try.underlying9) (rdfa_cons (off := 4) (sz := 1) (by kernel_rfl) (rda_string Try.underlying9) (rdfa_cons (off := 5) (sz := 1) (by kernel_rfl) (rda_int Try.underlying22) (rdfa_cons (off := 6) (sz := 1) (by kernel_rfl) (rda_int Try.underlying22) (rdfa_one (off := 7) (rda_int Try.underlying22))))))))) (fun _ => rfl)) hsz h1 (j := 1) rfl rfl
  obtain ⟨cs1, rfl, hn1⟩ := okWide_struct Try.underlying27 (hval 1 27 v1 rfl rfl)
  obtain ⟨x2, rfl, rfl, rfl, ok2⟩ := open_int Try.underlying3 (hval 2 3 v2 rfl rfl) h2
  clear hA0 hval0 hsz0 hsz
  refine (law_calls (law_EntityUnder ⟨x0.1, x0.2.1, x0.2.2.1, x0.2.2.2.1, x0.2.2.2.2.1, x0.2.2.2.2.2.1, x0.2.2.2.2.2.2.1, x0.2.2.2.2.2.2.2⟩ ⟨x1.1, x1.2.1, x1.2.2.1, x1.2.2.2.1, x1.2.2.2.2.1, x1.2.2.2.2.2.1, x1.2.2.2.2.2.2.1, x1.2.2.2.2.2.2.2⟩ x2 (ok_ref (n := x0.2.1) (y := x0.2.2.1) (d := x0.2.2.2.1) (i := x0.2.2.2.2.1) ok0.1 ok0.2.2.2.2.2.1 ok0.2.2.2.2.2.2.1 ok0.2.2.2.2.2.2.2).1 (ok_ref (n := x0.2.1) (y := x0.2.2.1) (d := x0.2.2.2.1) (i := x0.2.2.2.2.1) ok0.1 ok0.2.2.2.2.2.1 ok0.2.2.2.2.2.2.1 ok0.2.2.2.2.2.2.2).2 (ok_ref (n := x1.2.1) (y := x1.2.2.1) (d := x1.2.2.2.1) (i := x1.2.2.2.2.1) ok1.1 ok1.2.2.2.2.2.1 ok1.2.2.2.2.2.2.1 ok1.2.2.2.2.2.2.2).1 (ok_ref (n := x1.2.1) (y := x1.2.2.1) (d := x1.2.2.2.1) (i := x1.2.2.2.2.1) ok1.1 ok1.2.2.2.2.2.1 ok1.2.2.2.2.2.2.1 ok1.2.2.2.2.2.2.2).2 (wf_i64 ok2).1 (by have := (wf_i64 ok2).2; omega)) (.cons (rv_struct hK0) (.cons (rv_struct hK1) (.cons (.raw _) .nil)))).mono ?_
  rintro e W' ⟨rfl, bel0⟩
  have bel : Below W.heap.size W W' := bel0
  exact ⟨_, rfl, _, _, _, [], _, [], hW', trodAll_mk1 (shut_bool Try.underlying4 _), (trodAll_cons_mk (Below.trod laidOut (by kernel_rfl) (of_decide_eq_true (by kernel_rfl)) h0 bel lt0) (trodAll_cons_mk (Below.trod laidOut (by kernel_rfl) (of_decide_eq_true (by kernel_rfl)) h1 bel lt1) (trodAll_cons_mk (shut_int Try.underlying3 ok2) trodAll_mk0))), rfl, bel.frame _, fun h => by cases h⟩
theorem over : Rows.entityUnderRow.holds Try.pinned (OpenSpec.ofChange Rows.entityUnderSpec) :=
  OpenClaim.holds_of_wide 4 Try.f4 rfl rfl rfl rfl rfl rfl rfl ⟨rfl, rfl, rfl, rfl, rfl⟩ rfl rfl rfl rfl rfl (by kernel_rfl) Try.func4 (by kernel_rfl)
    (of_decide_eq_true (by kernel_rfl)) (by unfold Func.isWrapper; first | (rw [if_pos (by decide +kernel)]; kernel_rfl) | (rw [if_neg (by decide +kernel)]; exact ⟨rfl, rfl⟩))
    (fun os started H enc _ => lifted os started H enc)
end Go.Proofs.Ytdbdajmgfajcpaa.entityUnder
namespace Go.Proofs.Ytdbdajmgfajcpaa
/-- The row, under a short name, for the claim. -/
theorem entityUnder_holds : Rows.EntityUnderSaid := entityUnder.over
end Go.Proofs.Ytdbdajmgfajcpaa
