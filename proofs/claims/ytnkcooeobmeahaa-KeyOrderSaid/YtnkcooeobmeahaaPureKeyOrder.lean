/- The plain law: keys of one kind stand in the order of their parts, and numbers in theirs. -/
import Derived.Test.YtnkcooeobmeahaaZ6
import Derived.Test.YtnkcooeobmeahaaKmake
import Derived.Test.YtnkcooeobmeahaaKnum
import Derived.Test.YtnkcooeobmeahaaKlive
import Derived.Test.YtnkcooeobmeahaaOk
namespace Go.Proofs.Ytnkcooeobmeahaa.Pure
open Go.RowKit Go.Proofs.Ytnkcooeobmeahaa.Z Go.Proofs.YtnkcooeobmeahaaW.PrintWords Go.Proofs.YtnkcooeobmeahaaW.PrintLast Go.Proofs.YtnkcooeobmeahaaW.PrintMore Go.Proofs.Ytnkcooeobmeahaa.PB Go.Proofs.Ytnkcooeobmeahaa.K3
set_option linter.unusedVariables false
set_option linter.unusedSimpArgs false
def ahd : List (List Int) → List (List Int) → Int
  | [], [] => 0
  | [], _ :: _ => -1
  | _ :: _, [] => 1
  | a :: x, b :: y => if ltb a b = true then -1 else if ltb b a = true then 1 else ahd x y
theorem ahd_ltp : ∀ a b : List (List Int), (ahd a b = -1 ∧ ltp a b = true ∧ ltp b a = false) ∨ (ahd a b = 1 ∧ ltp b a = true ∧ ltp a b = false) ∨ (ahd a b = 0 ∧ a = b)
  | [], [] => .inr (.inr ⟨rfl, rfl⟩)
  | [], _ :: _ => .inl ⟨rfl, rfl, rfl⟩
  | _ :: _, [] => .inr (.inl ⟨rfl, rfl, rfl⟩)
  | a :: x, b :: y => by
    simp only [ahd]
    by_cases h : ltb a b = true
    · have hne : ¬ a = b := fun e => by rw [e, ltb_irr] at h; cases h
      rw [if_pos h]
      exact .inl ⟨rfl, by simp only [ltp, if_neg hne]; exact h, by simp only [ltp, if_neg (Ne.symm hne)]; exact ltb_asymm _ _ h⟩
    · rw [if_neg h]
      by_cases h2 : ltb b a = true
      · have hne : ¬ a = b := fun e => by rw [e, ltb_irr] at h2; cases h2
        rw [if_pos h2]
        exact .inr (.inl ⟨rfl, by simp only [ltp, if_neg (Ne.symm hne)]; exact h2, by simp only [ltp, if_neg hne]; exact ltb_asymm _ _ h2⟩)
      · rw [if_neg h2]
        have e : a = b := ltb_total a b (by simpa using h) (by simpa using h2)
        subst e
        simp only [ltp, if_true]
        rcases ahd_ltp x y with h3 | h3 | h3
        · exact .inl h3
        · exact .inr (.inl h3)
        · exact .inr (.inr ⟨h3.1, by rw [h3.2]⟩)
theorem ev_ahead_l0 (a b : List ByteArray) (mn_ : Nat) (hm : mn_ = min a.length b.length) (ha : a.length ≤ 4611686018427387904) : ∀ (m j : Nat), j + m = mn_ →
    Ev (fun k => conductorlaw03_ahead.l0 k a b (mn_ : Int) (j : Int)) (ahd ((a.drop j).map bytesOf) ((b.drop j).map bytesOf))
  | 0, j, hj => by
    refine ev_none (fun k => ?_)
    simp only [conductorlaw03_ahead.l0]
    rw [if_neg (by omega)]
    by_cases h1 : a.length < b.length
    · rw [if_pos (by omega), show a.drop j = [] from List.drop_eq_nil_of_le (by omega), drop_rdOf ByteArray.empty b j (by omega)]; rfl
    · rw [if_neg (by omega)]
      by_cases h2 : a.length > b.length
      · rw [if_pos (by omega), show b.drop j = [] from List.drop_eq_nil_of_le (by omega), drop_rdOf ByteArray.empty a j (by omega)]; rfl
      · rw [if_neg (by omega), show a.drop j = [] from List.drop_eq_nil_of_le (by omega), show b.drop j = [] from List.drop_eq_nil_of_le (by omega)]; rfl
  | m + 1, j, hj => by
    have ih := ev_ahead_l0 a b mn_ hm ha m (j + 1) (by omega)
    have e1 : wrap64 ((j : Int) + 1) = ((j + 1 : Nat) : Int) := by rw [w64 (by omega) (by omega)]; omega
    rw [drop_rdOf ByteArray.empty a j (by omega), drop_rdOf ByteArray.empty b j (by omega), List.map_cons, List.map_cons]
    simp only [ahd]
    by_cases h : ltb (bytesOf (rdOf ByteArray.empty a (j : Int))) (bytesOf (rdOf ByteArray.empty b (j : Int))) = true
    · refine ev_none (fun k => ?_)
      simp only [conductorlaw03_ahead.l0, less_bytes]
      rw [if_pos (by omega), if_pos (by omega), if_pos (by omega), if_pos (by omega), if_pos h, if_pos h]
    · by_cases h2 : ltb (bytesOf (rdOf ByteArray.empty b (j : Int))) (bytesOf (rdOf ByteArray.empty a (j : Int))) = true
      · refine ev_none (fun k => ?_)
        simp only [conductorlaw03_ahead.l0, less_bytes]
        rw [if_pos (by omega), if_pos (by omega), if_pos (by omega), if_pos (by omega), if_neg h, if_pos h2, if_neg h, if_pos h2]
      · rw [if_neg h, if_neg h2]
        refine ev_step _ (fun k => ?_) ih
        simp only [conductorlaw03_ahead.l0, less_bytes]
        rw [if_pos (by omega), if_pos (by omega), if_pos (by omega), if_pos (by omega), if_neg h, if_neg h2, e1]
theorem ev_ahead (a b : List ByteArray) (ha : a.length ≤ 4611686018427387904) : Ev (fun k => conductorlaw03_ahead.f k a b) (ahd (a.map bytesOf) (b.map bytesOf)) := by
  have h := ev_ahead_l0 a b (min a.length b.length) rfl ha (min a.length b.length) 0 (by omega)
  have e : mn (a.length : Int) (b.length : Int) = ((min a.length b.length : Nat) : Int) := by unfold mn; split <;> omega
  unfold conductorlaw03_ahead.f
  rw [e]
  exact h
theorem KeyOrder : ∀ (x0 : Int) (x1 : List ByteArray) (x2 : List ByteArray) (x3 : Int) (x4 : Int), (Lit.int .u8 x0).wf = true → ok22 x1 → ok22 x2 → (Lit.int .u64 x3).wf = true → (Lit.int .u64 x4).wf = true → ∃ k, conductorlaw03_KeyOrder.f k x0 x1 x2 x3 x4 = some true := by
  intro kind a b m n hk ha hb hm hn
  have hk := wf_u8 hk
  have hm := wf_u64 hm
  have hn := wf_u64 hn
  have hal : a.length ≤ 4611686018427387904 := by have := ha.2.1; unfold maxLen at this; have := ha.1; omega
  have hbl : b.length ≤ 4611686018427387904 := by have := hb.2.1; unfold maxLen at this; have := hb.1; omega
  apply Ev.rounds
  have live : ∀ c, c = true → Ev (fun k => conductorlaw03_KeyOrder.j0 k kind a b m n c) true := by
    rintro c rfl
    refine ev_step (fun k => (conductorlaw03_live.f k).bind fun t => some t) (fun k => by simp only [conductorlaw03_KeyOrder.j0]; rw [if_pos trivial]) ?_
    exact Ev.bind ev_live (Ev.now _)
  unfold conductorlaw03_KeyOrder.f
  refine Ev.bind ev_live ?_
  simp only [if_true]
  refine Ev.bind (ev_few a hal) ?_
  by_cases h1 : fewB a = true
  · simp only [if_pos h1]
    refine Ev.bind (ev_few b hbl) ?_
    by_cases h2 : fewB b = true
    · have fa := few_of h1
      have fb := few_of h2
      rw [h2]
      refine ev_step _ (fun k => by simp only [conductorlaw03_KeyOrder.j0, Bool.not_true, if_neg Bool.false_ne_true]; rfl) ?_
      refine Ev.bind (ev_make kind a (fun s hs => by have := fa.1 s hs; omega) (by omega)) ?_
      refine Ev.bind (ev_make kind b (fun s hs => by have := fb.1 s hs; omega) (by omega)) ?_
      refine Ev.bind (ev_ahead a b hal) ?_
      have hA : ∀ p ∈ a.map bytesOf, IsB p := by intro p hp; obtain ⟨s, _, rfl⟩ := List.mem_map.1 hp; exact isB_bytes s
      have hB : ∀ p ∈ b.map bytesOf, IsB p := by intro p hp; obtain ⟨s, _, rfl⟩ := List.mem_map.1 hp; exact isB_bytes s
      simp only [less_bytes, toList_eq_iff, bytes_of_nums (mkKey_isB hk hA), bytes_of_nums (mkKey_isB hk hB), mkKey_ltb kind hA hB, mkKey_ltb kind hB hA, number_f hm.1 hm.2, number_f hn.1 hn.2, Option.bind_some, bytes_of_nums (hx_isB _ _)]
      have e1 : (decide (m < n) == ltb (hx m 16) (hx n 16)) = true := by rw [hx_ltb 16 m n hm.1 (by omega) hn.1 (by omega)]; simp
      rw [e1]
      refine Ev.congr (f := fun _ => some true) (fun k => ?_) (Ev.now true)
      rcases ahd_ltp (a.map bytesOf) (b.map bytesOf) with h3 | h3 | h3
      · rw [h3.1, if_pos rfl, if_pos h3.2.1]
      · rw [h3.1, if_neg (by decide), if_pos rfl, if_pos h3.2.1]
      · rw [h3.1, if_neg (by decide), if_neg (by decide), if_pos (by rw [h3.2])]
    · exact live _ (by simp only [Bool.not_eq_true] at h2; rw [h2]; rfl)
  · simp only [if_neg h1]; exact live _ rfl
end Go.Proofs.Ytnkcooeobmeahaa.Pure
