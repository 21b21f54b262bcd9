/- The examples of chapter 1 are so. -/
import Derived.Test.YtdlmkdgcdbkeaaaZ5
import Derived.Test.YtdlmkdgcdbkeaaaPreader
namespace Go.Proofs.Ytdlmkdgcdbkeaaa.P1
open Go.RowKit Go.Proofs.Ytdlmkdgcdbkeaaa.Z Go.Proofs.YtdlmkdgcdbkeaaaW.PrintWords Go.Proofs.YtdlmkdgcdbkeaaaW.PrintLast Go.Proofs.YtdlmkdgcdbkeaaaW.PrintMore Go.Proofs.Ytdlmkdgcdbkeaaa.PB
set_option linter.unusedVariables false
set_option linter.unusedSimpArgs false
theorem nums_toList {xs : List Int} (h : IsB xs) (l : List UInt8) (e : xs = l.map (fun b => (b.toNat : Int))) : (strOfNums xs).toList = l := by
  rw [toList_lit, bytes_of_nums h]; exact e
theorem isB_dec (l : List Int) (h : l.all (fun b => decide (0 ≤ b) && decide (b ≤ 255)) = true) : IsB l := by
  intro b hb
  have := List.all_eq_true.1 h b hb
  simpa using this
theorem ev_live : Ev (fun k => conductorlaw01_live.f k) true := by
  unfold conductorlaw01_live.f
  refine Ev.bind (ev_read [128, 0] (by decide)) ?_
  refine Ev.bind (ev_eq (ev_rUint [128, 0] 0 (isB_dec _ (by decide)) (by unfold big; decide) (by decide) 18446744073709551615 0 0 8 (by decide) (fun h => absurd h (by decide))) (if_neg (by decide))) ?_
  simp only [if_true, err_f, Option.bind_some]
  refine ev_step _ (fun k => by
    simp only [conductorlaw01_live.j0]
    rw [if_neg (by decide)]) ?_
  refine Ev.bind (ev_uint (n := 300) (by decide) (by decide)) ?_
  simp only [if_pos (nums_toList (xs := enc 9 300) (isB_dec _ (by decide)) [172, 2] (by decide))]
  refine Ev.bind (ev_int (n := -1) (by decide) (by decide)) ?_
  simp only [if_pos (nums_toList (xs := enc 9 (zig (-1))) (isB_dec _ (by decide)) [1] (by decide))]
  refine Ev.bind (ev_text ⟨#[97, 98]⟩ (by decide)) ?_
  refine ev_eq (Ev.now _) ?_
  rw [beq_iff_eq]
  exact nums_toList (isB_dec _ (by decide)) [2, 97, 98] (by decide)
end Go.Proofs.Ytdlmkdgcdbkeaaa.P1
