/- Lists of texts: whether they are the same, or begin with others. -/
import Derived.Test.YtnkcooeobmeahaaZ7
import Derived.Test.YtnkcooeobmeahaaPB
namespace Go.Proofs.Ytnkcooeobmeahaa.K3
open Go.RowKit Go.Proofs.Ytnkcooeobmeahaa.Z Go.Proofs.YtnkcooeobmeahaaW.PrintWords Go.Proofs.YtnkcooeobmeahaaW.PrintLast Go.Proofs.YtnkcooeobmeahaaW.PrintMore Go.Proofs.Ytnkcooeobmeahaa.PB
set_option linter.unusedVariables false
theorem map_bytes_inj : ∀ {a b : List ByteArray}, a.map bytesOf = b.map bytesOf → a = b
  | [], [], _ => rfl
  | [], _ :: _, h => by simp at h
  | _ :: _, [], h => by simp at h
  | x :: a, y :: b, h => by
    simp only [List.map_cons, List.cons.injEq] at h
    rw [bytes_inj h.1, map_bytes_inj h.2]
theorem ev_same_l0 (a b : List ByteArray) (hl : a.length = b.length) (ha : a.length ≤ 4611686018427387904) : ∀ (m j : Nat), j + m = a.length →
    Ev (fun k => conductorref02_Same.l0 k a b (a.length : Int) (j : Int)) (decide (a.drop j = b.drop j))
  | 0, j, hj => by
    refine ev_none (fun k => ?_)
    simp only [conductorref02_Same.l0]
    rw [if_neg (by omega), List.drop_eq_nil_of_le (by omega), List.drop_eq_nil_of_le (by omega)]
    rfl
  | m + 1, j, hj => by
    have ih := ev_same_l0 a b hl ha m (j + 1) (by omega)
    have e1 : wrap64 ((j : Int) + 1) = ((j + 1 : Nat) : Int) := by rw [w64 (by omega) (by omega)]; omega
    rw [drop_rdOf ByteArray.empty a j (by omega), drop_rdOf ByteArray.empty b j (by omega)]
    by_cases h : rdOf ByteArray.empty a (j : Int) = rdOf ByteArray.empty b (j : Int)
    · refine ev_step _ (fun k => ?_) (ev_eq ih (by simp [h]))
      simp only [conductorref02_Same.l0]
      rw [if_pos (by omega), if_pos (by omega), if_pos (by omega), if_pos (by omega), if_pos (by rw [h]), e1]
    · refine ev_none (fun k => ?_)
      simp only [conductorref02_Same.l0]
      rw [if_pos (by omega), if_pos (by omega), if_pos (by omega), if_pos (by omega), if_neg (fun e => h (bytes_inj (toList_eq_iff.1 e)))]
      simp [h]
theorem ev_same (a b : List ByteArray) (ha : a.length ≤ 4611686018427387904) : Ev (fun k => conductorref02_Same.f k a b) (decide (a = b)) := by
  unfold conductorref02_Same.f
  by_cases h : (a.length : Int) = (b.length : Int)
  · simp only [if_pos h]
    have := ev_same_l0 a b (by omega) ha a.length 0 (by omega)
    exact this
  · simp only [if_neg h]
    exact ev_eq (Ev.now false) (by symm; rw [decide_eq_false_iff_not]; intro e; exact h (by rw [e]))
end Go.Proofs.Ytnkcooeobmeahaa.K3
