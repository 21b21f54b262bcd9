/- The plain law: the key of any parts, the parts of any text, or that it is none; which texts are names; and the stretch under any parts. -/
import Derived.Test.YtnkcooeobmeahaaZ18
import Derived.Test.YtnkcooeobmeahaaKrefs
import Derived.Test.YtnkcooeobmeahaaKname
import Derived.Test.YtnkcooeobmeahaaKdigits
import Derived.Test.YtnkcooeobmeahaaPureKeyUnder
namespace Go.Proofs.Ytnkcooeobmeahaa.Pure
open Go.RowKit Go.Proofs.Ytnkcooeobmeahaa.Z Go.Proofs.YtnkcooeobmeahaaW.PrintWords Go.Proofs.YtnkcooeobmeahaaW.PrintLast Go.Proofs.YtnkcooeobmeahaaW.PrintMore Go.Proofs.Ytnkcooeobmeahaa.PB Go.Proofs.Ytnkcooeobmeahaa.K3
set_option linter.unusedVariables false
set_option linter.unusedSimpArgs false
theorem key_len (kind : Int) (ls : List ByteArray) (hs : ∀ s ∈ ls, s.size ≤ 100) (hl : ls.length ≤ 20) : (mkKey kind (ls.map bytesOf)).length ≤ 4041 := by
  have hlen : ∀ l : List (List Int), (∀ p ∈ l, p.length ≤ 100) → (l.flatMap encP).length ≤ 202 * l.length := by
    intro l
    induction l with
    | nil => intro _; simp
    | cons a l ih =>
      intro h
      have h1 := ih (fun s hs => h s (List.mem_cons_of_mem _ hs))
      have h2 := h a List.mem_cons_self
      have h3 := encP_len a
      rw [List.flatMap_cons, List.length_append, List.length_cons]; omega
  have h4 := hlen (ls.map bytesOf) (by intro p hp; obtain ⟨s, h, rfl⟩ := List.mem_map.1 hp; rw [len_bytes]; exact hs s h)
  rw [List.length_map] at h4
  simp only [mkKey, List.length_cons]; omega
theorem pk_len : ∀ (n : Nat) (l : List Int) (ps : List (List Int)), l.length ≤ n → pk l = some ps → ps.length ≤ l.length ∧ ∀ p ∈ ps, p.length ≤ l.length := by
  intro n l ps hn h
  have e := pk_of _ l ps (Nat.le_refl _) h
  subst e
  clear h hn
  have he : ∀ p : List Int, p.length + 2 ≤ (encP p).length := by
    intro p
    induction p with
    | nil => simp [encP]
    | cons c p ih =>
      have : encP (c :: p) = esc c ++ encP p := by simp [encP]
      rw [this, List.length_append, List.length_cons]
      have : 1 ≤ (esc c).length := by unfold esc; split <;> simp
      omega
  induction ps with
  | nil => simp
  | cons p ps ih =>
    have := he p
    rw [List.flatMap_cons, List.length_append, List.length_cons]
    refine ⟨by omega, fun q hq => ?_⟩
    rcases List.mem_cons.1 hq with rfl | hq
    · omega
    · have := ih.2 q hq; omega
theorem KeyMakes : ∀ (x0 : Int) (x1 : List ByteArray) (x2 : ByteArray), (Lit.int .u8 x0).wf = true → ok22 x1 → x2.size ≤ 140737488351232 → ∃ k, conductorlaw03_KeyMakes.f k x0 x1 x2 = some true := by
  intro kind a s hk ha hs
  have hk := wf_u8 hk
  have hal : a.length ≤ 4611686018427387904 := by have := ha.2.1; unfold maxLen at this; have := ha.1; omega
  apply Ev.rounds
  have live : ∀ c, c = true → Ev (fun k => conductorlaw03_KeyMakes.j0 k kind a s c) true := by
    rintro c rfl
    refine ev_step (fun k => (conductorlaw03_live.f k).bind fun t => some t) (fun k => by simp only [conductorlaw03_KeyMakes.j0]; rw [if_pos trivial]) ?_
    exact Ev.bind ev_live (Ev.now _)
  unfold conductorlaw03_KeyMakes.f
  refine Ev.bind ev_live ?_
  simp only [if_true]
  refine Ev.bind (ev_few a hal) ?_
  by_cases h1 : fewB a = true
  · simp only [if_pos h1]
    have fa := few_of h1
    have hA : ∀ p ∈ a.map bytesOf, IsB p := by intro p hp; obtain ⟨s, _, rfl⟩ := List.mem_map.1 hp; exact isB_bytes s
    by_cases h2 : (s.size : Int) > 1000
    · exact live _ (by simp [h2])
    · rw [show decide ((s.size : Int) > 1000) = false by simp; omega]
      refine ev_step _ (fun k => by simp only [conductorlaw03_KeyMakes.j0, if_neg Bool.false_ne_true]; rfl) ?_
      refine Ev.bind (ev_parse s (by omega)) ?_
      refine Ev.bind (ev_rparse s (by omega)) ?_
      obtain ⟨R, hR⟩ : ∃ R : Int × List ByteArray × Int, (if s.size = 0 then (0, [], 31) else psR (bt s 0) (pk ((bytesOf s).drop 1))) = R := ⟨_, rfl⟩
      have hRl : R.2.1.length ≤ 4611686018427387904 := by
        rw [← hR]
        by_cases h0 : s.size = 0
        · rw [if_pos h0]; simp
        · rw [if_neg h0]
          cases hp : pk ((bytesOf s).drop 1) with
          | none => simp [psR]
          | some ps =>
            have := (pk_len _ _ ps (Nat.le_refl _) hp).1
            rw [List.length_drop, len_bytes] at this
            simp only [psR, List.length_map]; omega
      simp only [hR]
      refine Ev.bind (ev_under kind hk a (fun s hs => by have := fa.1 s hs; omega) (by omega)) ?_
      refine Ev.bind (ev_rmake kind hk a (by omega) (fun s hs => by have := fa.1 s hs; omega)) ?_
      refine Ev.bind (ev_make kind a (fun s hs => by have := fa.1 s hs; omega) (by omega)) ?_
      simp only [if_true]
      refine Ev.bind (ev_same _ _ hRl) ?_
      simp only [decide_true, if_true]
      refine Ev.bind (ev_name s (by omega)) ?_
      refine Ev.bind (ev_rname s (by omega)) ?_
      simp only [beq_self_eq_true, if_true]
      have h3 := ev_rafter _ (strOfNums (mkKey kind (a.map bytesOf))) rfl (by rw [size_of_nums]; have := key_len kind a fa.1 fa.2; omega)
      rw [bytes_of_nums (mkKey_isB hk hA)] at h3
      refine ev_eq (Ev.bind h3 (Ev.now _)) ?_
      simp
  · simp only [if_neg h1]; exact live _ rfl
end Go.Proofs.Ytnkcooeobmeahaa.Pure
