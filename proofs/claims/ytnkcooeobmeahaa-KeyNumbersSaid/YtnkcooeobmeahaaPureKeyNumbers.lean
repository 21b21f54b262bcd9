/- The plain law: any number in digits, the number of any text, and the text behind all that begin with any text. -/
import Derived.Test.YtnkcooeobmeahaaZ13
import Derived.Test.YtnkcooeobmeahaaKdigits
import Derived.Test.YtnkcooeobmeahaaKlive
namespace Go.Proofs.Ytnkcooeobmeahaa.Pure
open Go.RowKit Go.Proofs.Ytnkcooeobmeahaa.Z Go.Proofs.YtnkcooeobmeahaaW.PrintWords Go.Proofs.YtnkcooeobmeahaaW.PrintLast Go.Proofs.YtnkcooeobmeahaaW.PrintMore Go.Proofs.Ytnkcooeobmeahaa.PB Go.Proofs.Ytnkcooeobmeahaa.K3
set_option linter.unusedVariables false
set_option linter.unusedSimpArgs false
theorem KeyNumbers : ∀ (x0 : Int) (x1 : ByteArray), (Lit.int .u64 x0).wf = true → x1.size ≤ 140737488351232 → ∃ k, conductorlaw03_KeyNumbers.f k x0 x1 = some true := by
  intro n s hn hs
  have hn := wf_u64 hn
  apply Ev.rounds
  have live : ∀ c, c = true → Ev (fun k => conductorlaw03_KeyNumbers.j0 k n s c) true := by
    rintro c rfl
    refine ev_step (fun k => (conductorlaw03_live.f k).bind fun t => some t) (fun k => by simp only [conductorlaw03_KeyNumbers.j0]; rw [if_pos trivial]) ?_
    exact Ev.bind ev_live (Ev.now _)
  unfold conductorlaw03_KeyNumbers.f
  refine Ev.bind ev_live ?_
  simp only [if_true]
  by_cases h1 : (s.size : Int) > 1000
  · exact live _ (by simp [h1])
  · rw [show decide ((s.size : Int) > 1000) = false by simp; omega]
    refine ev_step _ (fun k => by simp only [conductorlaw03_KeyNumbers.j0, if_neg Bool.false_ne_true]; rfl) ?_
    refine Ev.bind (ev_kdigits s) ?_
    refine Ev.bind (ev_rdigits s (by omega)) ?_
    simp only [number_f hn.1 hn.2, Option.bind_some]
    have h2 := ev_kdigits (strOfNums (hx n 16))
    rw [size_of_nums, hx_len, if_pos rfl, bytes_of_nums (hx_isB _ _), digs_hx 16 n hn.1 (by omega) hn.2] at h2
    refine Ev.bind h2 ?_
    refine Ev.bind (ev_rnumber n hn.1 hn.2) ?_
    simp only [if_true, digR]
    refine Ev.bind (ev_after s (by omega)) ?_
    refine ev_eq (Ev.bind (ev_rafter s.size s rfl (by omega)) (Ev.now _)) ?_
    simp
end Go.Proofs.Ytnkcooeobmeahaa.Pure
