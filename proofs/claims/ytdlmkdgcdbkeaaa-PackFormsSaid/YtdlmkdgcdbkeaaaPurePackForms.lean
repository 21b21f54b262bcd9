/- PackForms. -/
import Derived.Test.YtdlmkdgcdbkeaaaZ9
import Derived.Test.YtdlmkdgcdbkeaaaOk
import Derived.Test.YtdlmkdgcdbkeaaaPlive
namespace Go.Proofs.Ytdlmkdgcdbkeaaa.P1
open Go.RowKit Go.Proofs.Ytdlmkdgcdbkeaaa.Z Go.Proofs.YtdlmkdgcdbkeaaaW.PrintWords Go.Proofs.YtdlmkdgcdbkeaaaW.PrintLast Go.Proofs.YtdlmkdgcdbkeaaaW.PrintMore Go.Proofs.Ytdlmkdgcdbkeaaa.PB
set_option linter.unusedVariables false
set_option linter.unusedSimpArgs false
theorem forms_err (l again : List Int) (hg : big l) (e : Int) (he : e ≠ 0) : Ev (fun k => conductorlaw01_PackForms.j1 k l again true l 0 e) true := by
  refine ev_none (fun k => ?_)
  simp only [conductorlaw01_PackForms.j1]
  rw [err_f]
  simp only [Option.bind_some, if_neg he]
  have := left_f l 0 e hg (Nat.zero_le _)
  rw [show ((0 : Nat) : Int) = 0 from rfl] at this
  rw [this]
  simp
theorem forms_ok (l again : List Int) (hg : big l) (K : Nat) (h0 : 0 < K) (h1 : K ≤ l.length) (ha : again = l.take K) : Ev (fun k => conductorlaw01_PackForms.j1 k l again true l (K : Int) 0) true := by
  refine ev_none (fun k => ?_)
  have hg' := hg
  unfold big at hg'
  simp only [conductorlaw01_PackForms.j1]
  rw [err_f]
  simp only [Option.bind_some, if_true]
  rw [left_f l K 0 hg h1]
  simp only [Option.bind_some]
  rw [show wrap64 ((l.length : Int) - ((l.length - K : Nat) : Int)) = (K : Int) by rw [w64 (by omega) (by omega)]; omega]
  rw [if_pos (by omega), if_pos (by omega), if_pos (by omega), Int.toNat_natCast, ← ha]
  simp [conductorref01_Equal.f]
theorem dec_len_form {l : List Int} {N K E : Int} (hb : IsB l) (hd : dec l 0 0 = (N, K, E)) (hE : E = 0) : 0 ≤ N ∧ N < 18446744073709551616 ∧ K = ((enc 9 N).length : Int) ∧ 0 < K ∧ K ≤ 10 ∧ K ≤ l.length ∧ enc 9 N = l.take K.toNat := by
  subst hE
  obtain ⟨n, p1, p2, p3, p4, p5, p6⟩ := dec_form 9 0 l 0 N K (by decide) hb hd
  have e : N = n := by rw [p4]; simp
  subst e
  have hl := enc_len 9 N
  have e2 : K = ((enc 9 N).length : Int) := by rw [p5]; simp
  have h3 : (enc 9 N).length ≤ l.length := by
    have := congrArg List.length p6
    rw [List.length_append] at this; omega
  refine ⟨p1, by simpa using p3, e2, by omega, by omega, by omega, ?_⟩
  rw [e2, Int.toNat_natCast]
  conv => rhs; rw [p6]
  rw [List.take_left]
theorem PackForms' (l : List Int) (a : Int) (hb : IsB l) (hlen : l.length ≤ 140737488351232) (ha0 : 0 ≤ a) (ha : a ≤ 255) : Ev (fun k => conductorlaw01_PackForms.f k l a) true := by
  have hg : big l := by unfold big; omega
  unfold conductorlaw01_PackForms.f
  refine Ev.bind ev_live ?_
  simp only [if_true]
  by_cases h1 : (l.length : Int) > 65536
  · rw [decide_eq_true h1]
    refine ev_step _ (fun k => by
      simp only [conductorlaw01_PackForms.j0]
      rw [if_pos (by trivial)]) ?_
    exact Ev.bind ev_live (Ev.now _)
  rw [decide_eq_false h1]
  refine ev_step _ (fun k => by
    simp only [conductorlaw01_PackForms.j0]
    rw [if_neg (by decide)]) ?_
  refine Ev.bind (ev_read l hg) ?_
  obtain ⟨N, K, E, hd⟩ : ∃ N K E, dec l 0 0 = (N, K, E) := ⟨_, _, _, rfl⟩
  have hf := dec_len_form hb hd
  have hd' : dec (l.drop 0) 0 0 = (N, K, E) := hd
  have hu := ev_rUint l 0 hb hg (Nat.zero_le _) 18446744073709551615 N K E hd' (fun h => by have := hf h; omega)
  by_cases hE : E = 0
  · obtain ⟨n0, n1, k0, k1, k2, k3, k4⟩ := hf hE
    have hKn : K = ((K.toNat : Nat) : Int) := by omega
    rw [if_pos hE, if_neg (by omega), show ((0 : Nat) : Int) + K = ((K.toNat : Nat) : Int) by omega] at hu
    by_cases c0 : Int.tmod a 3 = 0
    · simp only [if_pos c0]
      refine Ev.bind hu ?_
      refine Ev.bind (ev_uint n0 n1) ?_
      exact forms_ok l _ hg _ (by omega) (by omega) k4
    simp only [if_neg c0]
    by_cases c1 : Int.tmod a 3 = 1
    · simp only [if_pos c1]
      refine Ev.bind (ev_rInt hu n0 n1) ?_
      have hz := unzig_range n0 n1
      refine Ev.bind (ev_int hz.1 hz.2) ?_
      rw [zig_unzig n0]
      exact forms_ok l _ hg _ (by omega) (by omega) k4
    have c2 : Int.tmod a 3 = 2 := by
      have := Int.tmod_nonneg 3 ha0
      have := Int.tmod_lt_of_pos a (show (0 : Int) < 3 by decide)
      omega
    simp only [if_neg c1, if_pos c2]
    have ht := ev_rText l 0 hb hg (Nat.zero_le _) (l.length : Int) N K E (by omega) hd' (fun _ => by omega)
    rw [if_pos hE] at ht
    by_cases g1 : N > (l.length : Int) ∨ (l.length : Int) < 0
    · rw [if_pos g1] at ht
      refine Ev.bind ht ?_
      refine Ev.bind (ev_text _ (by decide)) ?_
      exact forms_err l _ hg 3 (by decide)
    rw [if_neg g1] at ht
    by_cases g2 : N > (l.length : Int) - ((0 : Nat) : Int) - K
    · rw [if_pos g2] at ht
      refine Ev.bind ht ?_
      refine Ev.bind (ev_text _ (by decide)) ?_
      exact forms_err l _ hg 6 (by decide)
    rw [if_neg g2] at ht
    have hbt : IsB ((l.drop (0 + K.toNat)).take N.toNat) := isB_take (isB_drop hb _) _
    have hlt : ((l.drop (0 + K.toNat)).take N.toNat).length = N.toNat := by rw [List.length_take, List.length_drop]; omega
    have hsz : (strOfNums ((l.drop (0 + K.toNat)).take N.toNat)).size = N.toNat := by rw [size_of_nums, hlt]
    refine Ev.bind ht ?_
    refine Ev.bind (ev_text _ (by rw [hsz]; omega)) ?_
    rw [hsz, bytes_of_nums hbt, show ((N.toNat : Nat) : Int) = N by omega, show ((0 : Nat) : Int) + K + N = ((K.toNat + N.toNat : Nat) : Int) by omega]
    refine forms_ok l _ hg _ (by omega) (by omega) ?_
    rw [k4, Nat.zero_add, ← List.take_add]
  · rw [if_neg hE] at hu
    by_cases c0 : Int.tmod a 3 = 0
    · simp only [if_pos c0]
      refine Ev.bind hu ?_
      refine Ev.bind (ev_uint (n := 0) (by decide) (by decide)) ?_
      exact forms_err l _ hg E hE
    simp only [if_neg c0]
    by_cases c1 : Int.tmod a 3 = 1
    · simp only [if_pos c1]
      refine Ev.bind (ev_rInt hu (by decide) (by decide)) ?_
      refine Ev.bind (ev_int (n := unzig 0) (by decide) (by decide)) ?_
      exact forms_err l _ hg E hE
    have c2 : Int.tmod a 3 = 2 := by
      have := Int.tmod_nonneg 3 ha0
      have := Int.tmod_lt_of_pos a (show (0 : Int) < 3 by decide)
      omega
    simp only [if_neg c1, if_pos c2]
    have ht := ev_rText l 0 hb hg (Nat.zero_le _) (l.length : Int) N K E (by omega) hd' (fun h => absurd h hE)
    rw [if_neg hE] at ht
    refine Ev.bind ht ?_
    refine Ev.bind (ev_text ⟨#[]⟩ (by decide)) ?_
    exact forms_err l _ hg E hE
end Go.Proofs.Ytdlmkdgcdbkeaaa.P1
namespace Go.Proofs.Ytdlmkdgcdbkeaaa.Pure
open Go.RowKit Go.Proofs.Ytdlmkdgcdbkeaaa.Z Go.Proofs.YtdlmkdgcdbkeaaaW.PrintWords Go.Proofs.YtdlmkdgcdbkeaaaW.PrintLast Go.Proofs.YtdlmkdgcdbkeaaaW.PrintMore Go.Proofs.Ytdlmkdgcdbkeaaa.PB Go.Proofs.Ytdlmkdgcdbkeaaa.P1
theorem PackForms : ∀ (x0 : List Int) (x1 : Int), ok25 x0 → (Lit.int .u8 x1).wf = true → ∃ k, conductorlaw01_PackForms.f k x0 x1 = some true := by
  intro l a hl ha
  obtain ⟨K, h⟩ := PackForms' l a (fun b hb => wf_u8 (hl.2.2 b hb)) (by have := hl.1; omega) (wf_u8 ha).1 (wf_u8 ha).2
  exact ⟨K, h K (Nat.le_refl _)⟩
end Go.Proofs.Ytdlmkdgcdbkeaaa.Pure
