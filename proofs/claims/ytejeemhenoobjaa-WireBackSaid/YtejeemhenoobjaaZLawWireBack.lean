/- The row of the statement WireBack: the contract of its function, and what came in. -/
import Derived.Test.YtejeemhenoobjaaRows
import Derived.WalkKit
import Derived.ProofKit
import Derived.OpenShut
import Derived.ShutString
import Derived.ChangeOld
import Derived.Below
import Derived.SizedLaws
import Derived.Carry
import Derived.Test.YtejeemhenoobjaaZW14P18
namespace Go.Proofs.Ytejeemhenoobjaa.wireBack
open Go.ChangeShapes Go.WideShapes Go.ChangeAt Go.RowKit
open Go.ChangeMaps (open_string shut_string)
open Go.Proofs.Ytejeemhenoobjaa.Asl
set_option linter.unusedVariables false
set_option linter.unusedSimpArgs false
theorem own : ownKnob Try.prog.godebug = none := by kernel_rfl
theorem laidOut : laidOutB Try.prog = true := by kernel_rfl
set_option maxRecDepth 100000 in
theorem lifted (os : Os) (started : os.Started) (H : Type) (enc : TypeId × Value → H) :
    ReturnsInHanded {} Try.checked os 4 .any (Rows.wireBackSpec.pre6 enc Try.prog Try.f4 Rows.wireBackRow.domain false) (Rows.wireBackSpec.post enc Try.prog Try.f4 false true false false) := by
  refine returnsInHanded_of_change_sized (C := Try.checked) own started (by kernel_rfl) Try.func4
    (ChangeSpec.witness6 (enc := enc) (C := Try.checked) false ⟨#[], #[.agg #[.string ByteArray.empty, .slice none 0 0, .slice none 0 0]], []⟩ 8 (by kernel_rfl) (by kernel_rfl) (by kernel_rfl) (by kernel_rfl)) ?_
  intro W base args ds gs before hval0 hW hcnd hsz0 _
  have hsz : (DataW.weightsEach Try.prog (Try.f4.params.toList ++ Rows.wireBackSpec.plain.varTypes Try.prog) (ds ++ gs)).all (· ≤ reachBytes) = true := hsz0
  have hval : ∀ (j : Nat) t v, Try.f4.params[j]? = some t → args[j]? = some v → Value.okWide Try.prog W .any base t v := hval0
  have hW' := hW
  obtain ⟨p, q, hA0, hV, rfl, hfz, hnd⟩ := hW
  have hA : DataW.TrodAll enc Try.prog W 0 (fun _ => true) true Try.f4.params.toList args.toList ds p := hA0
  rw [Try.params4] at hA hval hsz
  obtain ⟨v0, vs0, d0, ds0, p0, q0, hargs, rfl, rfl, h0, r0⟩ := trodAll_cons hA
  obtain ⟨rfl, rfl, rfl⟩ := trodAll_nil r0
  obtain rfl : args = #[v0] := by cases args; simp_all
  obtain ⟨rfl, rfl⟩ := trodVars_none hV
  have lt0 : ∀ x ∈ p0, x.block < W.heap.size := by obtain ⟨m, hm⟩ := h0; exact DataW.trod_lt m _ _ _ hm
  obtain ⟨x0, hK0, ok0⟩ := rda_arg (rda_struct (l := [(9, 0), (22, 1), (23, 2)]) (f := id) (m := id) Try.underlying25 rfl (by kernel_rfl) (rdfa_cons (off := 0) (sz := 1) (by kernel_rfl) (rda_string Try.underlying9) (rdfa_cons (off := 1) (sz := 1) (by kernel_rfl) (rda_slice (b := 96) (sz := 8) Try.underlying22 (by kernel_rfl) (by decide) (by kernel_rfl) (by decide) (rda_struct (l := [(3, 0), (9, 1), (3, 2), (9, 3), (9, 4), (9, 5), (3, 6), (4, 7)]) (f := id) (m := id) Try.underlying40 rfl (by kernel_rfl) (rdfa_cons (off := 0) (sz := 1) (by kernel_rfl) (rda_int Try.underlying3) (rdfa_cons (off := 1) (sz := 1) (by kernel_rfl) (rda_string Try.underlying9) (rdfa_cons (off := 2) (sz := 1) (by kernel_rfl) (rda_int Try.underlying3) (rdfa_cons (off := 3) (sz := 1) (by kernel_rfl) (rda_string Try.underlying9) (rdfa_cons (off := 4) (sz := 1) (by kernel_rfl) (rda_string Try.underlying9) (rdfa_cons (off := 5) (sz := 1) (by kernel_rfl) (rda_string Try.underlying9) (rdfa_cons (off := 6) (sz := 1) (by kernel_rfl) (rda_int Try.underlying3) (rdfa_one (off := 7) (rda_bool Try.underlying4))))))))) (fun _ => rfl)) (fun _ => by simp)) (rdfa_one (off := 2) (rda_slice (b := 40) (sz := 4) Try.underlying23 (by kernel_rfl) (by decide) (by kernel_rfl) (by decide) (rda_struct (l := [(3, 0), (3, 1), (9, 2), (4, 3)]) (f := id) (m := id) Try.underlying42 rfl (by kernel_rfl) (rdfa_cons (off := 0) (sz := 1) (by kernel_rfl) (rda_int Try.underlying3) (rdfa_cons (off := 1) (sz := 1) (by kernel_rfl) (rda_int Try.underlying3) (rdfa_cons (off := 2) (sz := 1) (by kernel_rfl) (rda_string Try.underlying9) (rdfa_one (off := 3) (rda_bool Try.underlying4))))) (fun _ => rfl)) (fun _ => by simp))))) (fun _ => rfl)) hsz h0 (j := 0) rfl rfl
  obtain ⟨cs0, rfl, hn0⟩ := okWide_struct Try.underlying25 (hval 0 25 v0 rfl rfl)
  clear hA0 hval0 hsz0 hsz
  refine (law_calls (gl_none rfl _) (row_WireBack x0 (by have := ok0.2.1.2.1; (try simp only [id] at this ⊢); omega) (by have := ok0.2.2.2.1; (try simp only [id] at this ⊢); omega) (fun y h => ⟨(by have := wf_i64 ((ok0.2.1.2.2 y h).1); unfold inRg; (try simp only [id] at this ⊢); omega), (by have := wf_i64 ((ok0.2.1.2.2 y h).2.2.1); unfold inRg; (try simp only [id] at this ⊢); omega), (by have := wf_i64 ((ok0.2.1.2.2 y h).2.2.2.2.2.2.1); unfold inRg; (try simp only [id] at this ⊢); omega)⟩) (fun y h => ⟨(by have := wf_i64 ((ok0.2.2.2.2 y h).1); unfold inRg; (try simp only [id] at this ⊢); omega), (by have := wf_i64 ((ok0.2.2.2.2 y h).2.1); unfold inRg; (try simp only [id] at this ⊢); omega)⟩)) (.cons (rv_struct hK0) .nil)).mono ?_
  rintro e W' ⟨rfl, bel0⟩
  have bel : Below W.heap.size W W' := bel0
  exact ⟨_, rfl, _, _, _, [], _, [], hW', trodAll_mk1 (shut_bool Try.underlying4 _), (trodAll_cons_mk (Below.trod laidOut (by kernel_rfl) (of_decide_eq_true (by kernel_rfl)) h0 bel lt0) trodAll_mk0), rfl, bel.frame _, fun h => by cases h⟩
theorem over : Rows.wireBackRow.holds Try.pinned (OpenSpec.ofChange Rows.wireBackSpec) :=
  OpenClaim.holds_of_wide 4 Try.f4 rfl rfl rfl rfl rfl rfl rfl ⟨rfl, rfl, rfl, rfl, rfl⟩ rfl rfl rfl rfl rfl (by kernel_rfl) Try.func4 (by kernel_rfl)
    (of_decide_eq_true (by kernel_rfl)) (by unfold Func.isWrapper; first | (rw [if_pos (by decide +kernel)]; kernel_rfl) | (rw [if_neg (by decide +kernel)]; exact ⟨rfl, rfl⟩))
    (fun os started H enc _ => lifted os started H enc)
end Go.Proofs.Ytejeemhenoobjaa.wireBack
namespace Go.Proofs.Ytejeemhenoobjaa
/-- The row, under a short name, for the claim. -/
theorem wireBack_holds : Rows.WireBackSaid := wireBack.over
end Go.Proofs.Ytejeemhenoobjaa

