/- The plain law: from a text on, up to ahead of the one After it, lie just the texts that begin with it. -/
import Derived.Test.YtnkcooeobmeahaaZ9
import Derived.Test.YtnkcooeobmeahaaKafter
import Derived.Test.YtnkcooeobmeahaaKlive
namespace Go.Proofs.Ytnkcooeobmeahaa.Pure
open Go.RowKit Go.Proofs.Ytnkcooeobmeahaa.Z Go.Proofs.YtnkcooeobmeahaaW.PrintWords Go.Proofs.YtnkcooeobmeahaaW.PrintLast Go.Proofs.YtnkcooeobmeahaaW.PrintMore Go.Proofs.Ytnkcooeobmeahaa.PB Go.Proofs.Ytnkcooeobmeahaa.K3
theorem prefix_take {p s : List Int} : (s.take p.length == p) = p.isPrefixOf s := by
  rw [Bool.eq_iff_iff, beq_iff_eq, List.isPrefixOf_iff_prefix, List.prefix_iff_eq_take]
  exact eq_comm
theorem KeyAfter : ∀ (x0 : ByteArray) (x1 : ByteArray), x0.size ≤ 140737488351232 → x1.size ≤ 140737488351232 → ∃ k, conductorlaw03_KeyAfter.f k x0 x1 = some true := by
  intro p s hp hs
  apply Ev.rounds
  have live : ∀ b, b = true → Ev (fun k => conductorlaw03_KeyAfter.j0 k p s b) true := by
    rintro b rfl
    refine ev_step (fun k => (conductorlaw03_live.f k).bind fun t => some t) (fun k => by simp only [conductorlaw03_KeyAfter.j0]; rw [if_pos trivial]) ?_
    exact Ev.bind ev_live (Ev.now _)
  unfold conductorlaw03_KeyAfter.f
  refine Ev.bind ev_live ?_
  simp only [if_true]
  by_cases h1 : (p.size : Int) > 1000
  · simp only [if_pos h1]; exact live _ rfl
  · simp only [if_neg h1]
    by_cases h2 : (s.size : Int) > 1000
    · exact live _ (by simp [h2])
    · rw [show decide ((s.size : Int) > 1000) = false by simp; omega]
      refine ev_step _ (fun k => by simp only [conductorlaw03_KeyAfter.j0, if_neg Bool.false_ne_true]; rfl) ?_
      refine Ev.bind (ev_after p (by omega)) ?_
      have law := after_law (bytesOf p) (bytesOf s) (isB_bytes p) (isB_bytes s)
      have e1 : bytesOf (strOfNums (after (bytesOf p))) = after (bytesOf p) := bytes_of_nums (after_isB (isB_bytes p))
      simp only [less_bytes, toList_lit, beq_toList, e1, bytes_extract, List.map_nil, List.drop_zero, Nat.sub_zero, Int.toNat_natCast]
      refine Ev.congr (f := fun _ => some true) (fun k => ?_) (Ev.now _)
      by_cases h3 : (s.size : Int) ≥ (p.size : Int)
      · have h4 : ((bytesOf s).take p.size == bytesOf p) = (bytesOf p).isPrefixOf (bytesOf s) := by
          rw [← len_bytes p]; exact prefix_take
        rw [if_pos h3, if_pos (by omega), if_pos (by omega), h4, ← law]
        cases ltb (bytesOf s) (bytesOf p) <;> by_cases h5 : after (bytesOf p) = [] <;> simp [h5]
      · have h4 : (bytesOf p).isPrefixOf (bytesOf s) = false := by
          rw [Bool.eq_false_iff]
          intro h
          have := (List.isPrefixOf_iff_prefix.1 h).length_le
          rw [len_bytes, len_bytes] at this; omega
        rw [h4] at law
        rw [if_neg h3]
        cases h6 : ltb (bytesOf s) (bytesOf p) <;> rw [h6] at law <;> by_cases h5 : after (bytesOf p) = [] <;> simp [h5] at law ⊢
        exact law
end Go.Proofs.Ytnkcooeobmeahaa.Pure
