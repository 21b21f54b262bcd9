/- The row of the statement EntityIndex: the contract of its function, and what came in. -/
import Derived.Test.YtdbdajmgfajcpaaRows
import Derived.Test.YtdbdajmgfajcpaaEG
import Derived.WalkKit
import Derived.ProofKit
import Derived.OpenShut
import Derived.ShutString
import Derived.ChangeOld
import Derived.Below
import Derived.SizedLaws
import Derived.Carry
namespace Go.Proofs.Ytdbdajmgfajcpaa.entityIndex
open Go.ChangeShapes Go.WideShapes Go.ChangeAt Go.RowKit
open Go.ChangeMaps (open_string shut_string)
open Go.Proofs.Ytdbdajmgfajcpaa.Asl
set_option linter.unusedVariables false
set_option linter.unusedSimpArgs false
theorem own : ownKnob Try.prog.godebug = none := by kernel_rfl
theorem laidOut : laidOutB Try.prog = true := by kernel_rfl
set_option maxRecDepth 100000 in
theorem lifted (os : Os) (started : os.Started) (H : Type) (enc : TypeId × Value → H) :
    ReturnsInHanded {} Try.checked os 5 .any (Rows.entityIndexSpec.pre6 enc Try.prog Try.f5 Rows.entityIndexRow.domain false) (Rows.entityIndexSpec.post enc Try.prog Try.f5 false true false false) := by
  refine returnsInHanded_of_change_sized (C := Try.checked) own started (by kernel_rfl) Try.func5
    (ChangeSpec.witness6 (enc := enc) (C := Try.checked) false ⟨#[], #[.string ByteArray.empty, .string ByteArray.empty, .int .u64 0, .int .u64 0, .int .u64 0, .int .u64 0, .agg #[.int .i64 0, .string ByteArray.empty, .string ByteArray.empty, .int .u64 0], .agg #[.int .i64 0, .string ByteArray.empty, .string ByteArray.empty, .int .u64 0]], []⟩ 8 (by kernel_rfl) (by kernel_rfl) (by kernel_rfl) (by kernel_rfl)) ?_
  intro W base args ds gs before hval0 hW hcnd hsz0 _
  have hsz : (DataW.weightsEach Try.prog (Try.f5.params.toList ++ Rows.entityIndexSpec.plain.varTypes Try.prog) (ds ++ gs)).all (· ≤ reachBytes) = true := hsz0
  have hval : ∀ (j : Nat) t v, Try.f5.params[j]? = some t → args[j]? = some v → Value.okWide Try.prog W .any base t v := hval0
  have hW' := hW
  obtain ⟨p, q, hA0, hV, rfl, hfz, hnd⟩ := hW
  have hA : DataW.TrodAll enc Try.prog W 0 (fun _ => true) true Try.f5.params.toList args.toList ds p := hA0
  rw [Try.params5] at hA hval hsz
  obtain ⟨v0, vs0, d0, ds0, p0, q0, hargs, rfl, rfl, h0, r0⟩ := trodAll_cons hA
  obtain ⟨v1, vs1, d1, ds1, p1, q1, rfl, rfl, rfl, h1, r1⟩ := trodAll_cons r0
  obtain ⟨v2, vs2, d2, ds2, p2, q2, rfl, rfl, rfl, h2, r2⟩ := trodAll_cons r1
  obtain ⟨v3, vs3, d3, ds3, p3, q3, rfl, rfl, rfl, h3, r3⟩ := trodAll_cons r2
  obtain ⟨v4, vs4, d4, ds4, p4, q4, rfl, rfl, rfl, h4, r4⟩ := trodAll_cons r3
  obtain ⟨v5, vs5, d5, ds5, p5, q5, rfl, rfl, rfl, h5, r5⟩ := trodAll_cons r4
  obtain ⟨v6, vs6, d6, ds6, p6, q6, rfl, rfl, rfl, h6, r6⟩ := trodAll_cons r5
  obtain ⟨v7, vs7, d7, ds7, p7, q7, rfl, rfl, rfl, h7, r7⟩ := trodAll_cons r6
  obtain ⟨rfl, rfl, rfl⟩ := trodAll_nil r7
  obtain rfl : args = #[v0, v1, v2, v3, v4, v5, v6, v7] := by cases args; simp_all
  obtain ⟨rfl, rfl⟩ := trodVars_none hV
  obtain ⟨x0, rfl, rfl, rfl, y0⟩ := open_string Try.underlying9 (hval 0 9 v0 rfl rfl) h0
  have ok0 : x0.size ≤ 140737488351232 := by
    have z := sized_string hsz (j := 0) (t := 9) rfl rfl
    rw [Array.length_toList] at z
    exact z
  obtain ⟨x1, rfl, rfl, rfl, y1⟩ := open_string Try.underlying9 (hval 1 9 v1 rfl rfl) h1
  have ok1 : x1.size ≤ 140737488351232 := by
    have z := sized_string hsz (j := 1) (t := 9) rfl rfl
    rw [Array.length_toList] at z
    exact z
  obtain ⟨x2, rfl, rfl, rfl, ok2⟩ := open_int Try.underlying22 (hval 2 22 v2 rfl rfl) h2
  obtain ⟨x3, rfl, rfl, rfl, ok3⟩ := open_int Try.underlying22 (hval 3 22 v3 rfl rfl) h3
  obtain ⟨x4, rfl, rfl, rfl, ok4⟩ := open_int Try.underlying22 (hval 4 22 v4 rfl rfl) h4
  obtain ⟨x5, rfl, rfl, rfl, ok5⟩ := open_int Try.underlying22 (hval 5 22 v5 rfl rfl) h5
  have lt6 : ∀ x ∈ p6, x.block < W.heap.size := by obtain ⟨m, hm⟩ := h6; exact DataW.trod_lt m _ _ _ hm
  obtain ⟨x6, hK6, ok6⟩ := rda_arg (rda_struct (l := [(3, 0), (9, 1), (9, 2), (22, 3)]) (f := id) (m := id) Try.underlying24 rfl (by kernel_rfl) (rdfa_cons (off := 0) (sz := 1) (by kernel_rfl) (rda_int Try.underlying3) (rdfa_cons (off := 1) (sz := 1) (by kernel_rfl) (rda_string Try.underlying9) (rdfa_cons (off := 2) (sz := 1) (by kernel_rfl) (rda_string Try.underlying9) (rdfa_one (off := 3) (rda_int Try.underlying22))))) (fun _ => rfl)) hsz h6 (j := 6) rfl rfl
  obtain ⟨cs6, rfl, hn6⟩ := okWide_struct Try.underlying24 (hval 6 24 v6 rfl rfl)
  have lt7 : ∀ x ∈ p7, x.block < W.heap.size := by obtain ⟨m, hm⟩ := h7; exact DataW.trod_lt m _ _ _ hm
  obtain ⟨x7, hK7, ok7⟩ := rda_arg (rda_struct (l := [(3, 0), (9, 1), (9, 2), (22, 3)]) (f := id) (m := id) Try.underlying24 rfl (by kernel_rfl) (rdfa_cons (off := 0) (sz := 1) (by kernel_rfl) (rda_int Try.underlying3) (rdfa_cons (off := 1) (sz := 1) (by kernel_rfl) (rda_string Try.underlying9) (rdfa_cons (off := 2) (sz := 1) (by kernel_rfl) (rda_string Try.underlying9) (rdfa_one (off := 3) (rda_int Try.underlying22))))) (fun _ => rfl)) hsz h7 (j := 7) rfl rfl
  obtain ⟨cs7, rfl, hn7⟩ := okWide_struct Try.underlying24 (hval 7 24 v7 rfl rfl)
  clear hA0 hval0 hsz0 hsz
  refine (law_calls (law_EntityIndex _ _ _ _ _ _ x6.1 x7.1 x6.2.1 x6.2.2.1 x7.2.1 x7.2.2.1 x6.2.2.2 x7.2.2.2 (by have := wf_u64 ok2; unfold inU; omega) (by have := wf_u64 ok3; unfold inU; omega) (by have := wf_u64 ok4; unfold inU; omega) (by have := wf_u64 ok5; unfold inU; omega) (by have := wf_u64 ok6.2.2.2; simp only [id] at this; unfold inU; omega) (by have := wf_u64 ok7.2.2.2; simp only [id] at this; unfold inU; omega) ok0 ok1 ok6.2.1 ok6.2.2.1 ok7.2.1 ok7.2.2.1) (.cons (.raw _) (.cons (.raw _) (.cons (.raw _) (.cons (.raw _) (.cons (.raw _) (.cons (.raw _) (.cons (rv_struct hK6) (.cons (rv_struct hK7) .nil))))))))).mono ?_
  rintro e W' ⟨rfl, bel0⟩
  have bel : Below W.heap.size W W' := bel0
  exact ⟨_, rfl, _, _, _, [], _, [], hW', trodAll_mk1 (shut_bool Try.underlying4 _), (trodAll_cons_mk (shut_string Try.underlying9 y0) (trodAll_cons_mk (shut_string Try.underlying9 y1) (trodAll_cons_mk (shut_int Try.underlying22 ok2) (trodAll_cons_mk (shut_int Try.underlying22 ok3) (trodAll_cons_mk (shut_int Try.underlying22 ok4) (trodAll_cons_mk (shut_int Try.underlying22 ok5) (trodAll_cons_mk (Below.trod laidOut (by kernel_rfl) (of_decide_eq_true (by kernel_rfl)) h6 bel lt6) (trodAll_cons_mk (Below.trod laidOut (by kernel_rfl) (of_decide_eq_true (by kernel_rfl)) h7 bel lt7) trodAll_mk0)))))))), rfl, bel.frame _, fun h => by cases h⟩
theorem over : Rows.entityIndexRow.holds Try.pinned (OpenSpec.ofChange Rows.entityIndexSpec) :=
  OpenClaim.holds_of_wide 5 Try.f5 rfl rfl rfl rfl rfl rfl rfl ⟨rfl, rfl, rfl, rfl, rfl⟩ rfl rfl rfl rfl rfl (by kernel_rfl) Try.func5 (by kernel_rfl)
    (of_decide_eq_true (by kernel_rfl)) (by unfold Func.isWrapper; first | (rw [if_pos (by decide +kernel)]; kernel_rfl) | (rw [if_neg (by decide +kernel)]; exact ⟨rfl, rfl⟩))
    (fun os started H enc _ => lifted os started H enc)
end Go.Proofs.Ytdbdajmgfajcpaa.entityIndex
namespace Go.Proofs.Ytdbdajmgfajcpaa
/-- The row, under a short name, for the claim. -/
theorem entityIndex_holds : Rows.EntityIndexSaid := entityIndex.over
end Go.Proofs.Ytdbdajmgfajcpaa
