/- The plain law: parts are got again of their key, and a text of which they are got is their key. -/
import Derived.Test.YtnkcooeobmeahaaZ19
import Derived.Test.YtnkcooeobmeahaaKparse
import Derived.Test.YtnkcooeobmeahaaKsame
import Derived.Test.YtnkcooeobmeahaaKlive
import Derived.Test.YtnkcooeobmeahaaOk
namespace Go.Proofs.Ytnkcooeobmeahaa.Pure
open Go.RowKit Go.Proofs.Ytnkcooeobmeahaa.Z Go.Proofs.YtnkcooeobmeahaaW.PrintWords Go.Proofs.YtnkcooeobmeahaaW.PrintLast Go.Proofs.YtnkcooeobmeahaaW.PrintMore Go.Proofs.Ytnkcooeobmeahaa.PB Go.Proofs.Ytnkcooeobmeahaa.K3
set_option linter.unusedVariables false
set_option linter.unusedSimpArgs false
theorem key_len' (kind : Int) (ls : List ByteArray) (hs : ∀ s ∈ ls, s.size ≤ 100) (hl : ls.length ≤ 20) : (mkKey kind (ls.map bytesOf)).length ≤ 4041 := by
  have hlen : ∀ l : List (List Int), (∀ p ∈ l, p.length ≤ 100) → (l.flatMap encP).length ≤ 202 * l.length := by
    intro l
    induction l with
    | nil => intro _; simp
    | cons a l ih =>
      intro h
      have h1 := ih (fun s hs => h s (List.mem_cons_of_mem _ hs))
      have h2 := h a List.mem_cons_self
      have h3 := encP_len a
      rw [List.flatMap_cons, List.length_append, List.length_cons]; omega
  have h4 := hlen (ls.map bytesOf) (by intro p hp; obtain ⟨s, h, rfl⟩ := List.mem_map.1 hp; rw [len_bytes]; exact hs s h)
  rw [List.length_map] at h4
  simp only [mkKey, List.length_cons]; omega
theorem flat_len : ∀ ps : List (List Int), ps.length ≤ (ps.flatMap encP).length ∧ ∀ p ∈ ps, p.length ≤ (ps.flatMap encP).length := by
  have he : ∀ p : List Int, p.length + 2 ≤ (encP p).length := by
    intro p
    induction p with
    | nil => simp [encP]
    | cons c p ih =>
      have : encP (c :: p) = esc c ++ encP p := by simp [encP]
      rw [this, List.length_append, List.length_cons]
      have : 1 ≤ (esc c).length := by unfold esc; split <;> simp
      omega
  intro ps
  induction ps with
  | nil => simp
  | cons p ps ih =>
    have := he p
    rw [List.flatMap_cons, List.length_append, List.length_cons]
    refine ⟨by omega, fun q hq => ?_⟩
    rcases List.mem_cons.1 hq with rfl | hq
    · omega
    · have := ih.2 q hq; omega
theorem isB_of_flat : ∀ ps : List (List Int), IsB (ps.flatMap encP) → ∀ p ∈ ps, IsB p := by
  have he : ∀ p : List Int, IsB (encP p) → IsB p := by
    intro p h
    have h1 := (isB_app.1 h).1
    intro b hb
    by_cases h0 : b = 0
    · omega
    · exact h1 b (List.mem_flatMap.2 ⟨b, hb, by unfold esc; rw [if_neg h0]; exact List.mem_cons_self⟩)
  intro ps
  induction ps with
  | nil => intro _ p hp; cases hp
  | cons a ps ih =>
    intro h p hp
    rw [List.flatMap_cons] at h
    have h1 := isB_app.1 h
    rcases List.mem_cons.1 hp with rfl | hp
    · exact he _ h1.1
    · exact ih h1.2 p hp
theorem KeyBack : ∀ (x0 : Int) (x1 : List ByteArray) (x2 : ByteArray), (Lit.int .u8 x0).wf = true → ok22 x1 → x2.size ≤ 140737488351232 → ∃ k, conductorlaw03_KeyBack.f k x0 x1 x2 = some true := by
  intro kind a s hk ha hs
  have hk := wf_u8 hk
  have hal : a.length ≤ 4611686018427387904 := by have := ha.2.1; unfold maxLen at this; have := ha.1; omega
  apply Ev.rounds
  have live : ∀ c, c = true → Ev (fun k => conductorlaw03_KeyBack.j0 k kind a s c) true := by
    rintro c rfl
    refine ev_step (fun k => (conductorlaw03_live.f k).bind fun t => some t) (fun k => by simp only [conductorlaw03_KeyBack.j0]; rw [if_pos trivial]) ?_
    exact Ev.bind ev_live (Ev.now _)
  unfold conductorlaw03_KeyBack.f
  refine Ev.bind ev_live ?_
  simp only [if_true]
  refine Ev.bind (ev_few a hal) ?_
  by_cases h1 : fewB a = true
  · simp only [if_pos h1]
    have fa := few_of h1
    have hA : ∀ p ∈ a.map bytesOf, IsB p := by intro p hp; obtain ⟨s, _, rfl⟩ := List.mem_map.1 hp; exact isB_bytes s
    by_cases h2 : (s.size : Int) > 1000
    · exact live _ (by simp [h2])
    · rw [show decide ((s.size : Int) > 1000) = false by simp; omega]
      refine ev_step _ (fun k => by simp only [conductorlaw03_KeyBack.j0, if_neg Bool.false_ne_true]; rfl) ?_
      refine Ev.bind (ev_make kind a (fun s hs => by have := fa.1 s hs; omega) (by omega)) ?_
      have h3 := ev_parse (strOfNums (mkKey kind (a.map bytesOf))) (by rw [size_of_nums]; have := key_len' kind a fa.1 fa.2; omega)
      rw [size_of_nums, bt_eq, bytes_of_nums (mkKey_isB hk hA), if_neg (by simp [mkKey])] at h3
      have e1 : (mkKey kind (a.map bytesOf)).drop 1 = (a.map bytesOf).flatMap encP := rfl
      have e2 : (mkKey kind (a.map bytesOf)).getD (0 : Int).toNat 0 = kind := rfl
      rw [e1, e2, pk_enc] at h3
      have e3 : (a.map bytesOf).map strOfNums = a := by rw [List.map_map]; conv => rhs; rw [← List.map_id a]
                                                        exact List.map_congr_left (fun x _ => nums_of_bytes x)
      simp only [psR, e3] at h3
      refine Ev.bind h3 ?_
      simp only [if_true]
      refine Ev.bind (ev_same a a hal) ?_
      simp only [decide_true, Bool.not_true]
      refine ev_step _ (fun k => by simp only [conductorlaw03_KeyBack.j1, if_neg Bool.false_ne_true]; rfl) ?_
      refine Ev.bind (ev_parse s (by omega)) ?_
      by_cases h0 : s.size = 0
      · rw [if_pos h0]
        refine Ev.congr (f := fun _ => some true) (fun k => ?_) (Ev.now true)
        simp
      · rw [if_neg h0]
        have hl : bytesOf s = bt s 0 :: (bytesOf s).drop 1 := by have := drop_bt s 0 (by omega); rw [List.drop_zero] at this; exact this
        obtain ⟨o, ho⟩ : ∃ o, pk ((bytesOf s).drop 1) = o := ⟨_, rfl⟩
        rw [ho]
        cases o with
        | none =>
          refine Ev.congr (f := fun _ => some true) (fun k => ?_) (Ev.now true)
          simp [psR]
        | some ps =>
          have e4 := pk_of _ _ ps (Nat.le_refl _) ho
          have hB : ∀ p ∈ ps, IsB p := isB_of_flat ps (by rw [← e4]; exact isB_drop (isB_bytes s) 1)
          have hlen := flat_len ps
          rw [← e4, List.length_drop, len_bytes] at hlen
          have e5 : (ps.map strOfNums).map bytesOf = ps := by rw [List.map_map]; conv => rhs; rw [← List.map_id ps]
                                                              exact List.map_congr_left (fun x hx => bytes_of_nums (hB x hx))
          simp only [psR, if_true]
          have h4 := ev_make (bt s 0) (ps.map strOfNums) (by
            intro x hx
            obtain ⟨p, hp, rfl⟩ := List.mem_map.1 hx
            rw [size_of_nums]; have := hlen.2 p hp; omega) (by rw [List.length_map]; omega)
          rw [e5] at h4
          refine ev_eq (Ev.bind h4 (Ev.now _)) ?_
          rw [beq_toList, bytes_of_nums (mkKey_isB (bt_bound s 0) hB), hl]
          simp only [mkKey, ← e4, beq_self_eq_true]
  · simp only [if_neg h1]; exact live _ rfl
end Go.Proofs.Ytnkcooeobmeahaa.Pure
