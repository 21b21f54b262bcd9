/- Which texts are names, the program's and the document's. -/
import Derived.Test.YtnkcooeobmeahaaZ3
import Derived.Test.YtnkcooeobmeahaaZ17
import Derived.Test.YtnkcooeobmeahaaPB
namespace Go.Proofs.Ytnkcooeobmeahaa.K3
open Go.RowKit Go.Proofs.Ytnkcooeobmeahaa.Z Go.Proofs.YtnkcooeobmeahaaW.PrintWords Go.Proofs.YtnkcooeobmeahaaW.PrintLast Go.Proofs.YtnkcooeobmeahaaW.PrintMore Go.Proofs.Ytnkcooeobmeahaa.PB
set_option linter.unusedVariables false
set_option linter.unusedSimpArgs false
def letB (c : Int) : Bool := decide (97 ≤ c) && decide (c ≤ 122)
def chB (c : Int) : Bool := letB c || (decide (48 ≤ c) && decide (c ≤ 57)) || decide (c = 45)
/-- A name. -/
def nameB (l : List Int) : Bool := match l with | [] => false | c :: _ => letB c && l.all chB && decide (l.length ≤ 16)
theorem ev_name_l0 (s : ByteArray) (hs : s.size ≤ 4611686018427387904) : ∀ (m i : Nat), i + m = s.size → Ev (fun k => key_Name.l0 k s (s.size : Int) (i : Int)) (((bytesOf s).drop i).all chB)
  | 0, i, hi => by
    refine ev_none (fun k => ?_)
    simp only [key_Name.l0]
    rw [if_neg (by omega), List.drop_eq_nil_of_le (by rw [len_bytes]; omega)]; rfl
  | m + 1, i, hi => by
    have ih := ev_name_l0 s hs m (i + 1) (by omega)
    have e1 : wrap64 ((i : Int) + 1) = ((i + 1 : Nat) : Int) := by rw [w64 (by omega) (by omega)]; omega
    rw [drop_bt s i (by omega), List.all_cons]
    obtain ⟨c, hc⟩ : ∃ c, bt s (i : Int) = c := ⟨_, rfl⟩
    rw [hc]
    have h3 : ∀ b : Bool, letB c = false → b = (decide (48 ≤ c) && decide (c ≤ 57)) → Ev (fun k => key_Name.j3 k s c (s.size : Int) (i : Int) b) (chB c && ((bytesOf s).drop (i + 1)).all chB) := by
      intro b hl hb
      by_cases h : b = true
      · refine ev_step _ (fun k => ?_) (ev_eq ih ?_)
        · simp only [key_Name.j3]; rw [if_pos h, e1]
        · rw [show chB c = true by unfold chB; rw [← hb, h]; simp]; rfl
      · by_cases h45 : c = 45
        · refine ev_step _ (fun k => ?_) (ev_eq ih ?_)
          · simp only [key_Name.j3]; rw [if_neg h, if_pos h45, e1]
          · rw [show chB c = true by unfold chB; simp [h45]]; rfl
        · refine ev_none (fun k => ?_)
          simp only [key_Name.j3]
          rw [if_neg h, if_neg h45, show chB c = false by unfold chB; rw [← hb, hl]; simp [h, h45]]; rfl
    have h2 : ∀ b : Bool, b = letB c → Ev (fun k => key_Name.j2 k s c (s.size : Int) (i : Int) b) (chB c && ((bytesOf s).drop (i + 1)).all chB) := by
      intro b hb
      by_cases h : b = true
      · refine ev_step _ (fun k => ?_) (ev_eq ih ?_)
        · simp only [key_Name.j2]; rw [if_pos h, e1]
        · rw [show chB c = true by unfold chB; rw [← hb, h]; simp]; rfl
      · refine ev_step _ (fun k => ?_) (h3 (decide (48 ≤ c) && decide (c ≤ 57)) (by rw [← hb]; simpa using h) rfl)
        simp only [key_Name.j2]
        rw [if_neg h]
        by_cases h48 : c ≥ 48
        · rw [if_pos h48, show decide (48 ≤ c) = true by simpa using h48, Bool.true_and]
        · rw [if_neg h48, show decide (48 ≤ c) = false by simpa using h48, Bool.false_and]
    refine ev_step _ (fun k => ?_) (h2 (letB c) rfl)
    simp only [key_Name.l0, hc]
    rw [if_pos (by omega), if_pos (by omega), if_pos (by omega)]
    by_cases h97 : c ≥ 97
    · rw [if_pos h97]; unfold letB; rw [show decide (97 ≤ c) = true by simpa using h97, Bool.true_and]
    · rw [if_neg h97]; unfold letB; rw [show decide (97 ≤ c) = false by simpa using h97, Bool.false_and]
theorem ev_name (s : ByteArray) (hs : s.size ≤ 4611686018427387904) : Ev (fun k => key_Name.f k s) (nameB (bytesOf s)) := by
  have no : nameB (bytesOf s) = false → ∀ b : Bool, b = true → Ev (fun k => key_Name.j0 k s b) (nameB (bytesOf s)) := by
    intro h b hb
    rw [h]
    refine ev_none (fun k => ?_)
    simp only [key_Name.j0]; rw [if_pos hb]
  unfold key_Name.f
  by_cases h0 : s.toList = []
  · simp only [if_pos h0]
    have : bytesOf s = [] := List.length_eq_zero_iff.1 (by rw [len_bytes]; exact toList_nil.1 h0)
    exact no (by rw [this]; rfl) _ rfl
  · simp only [if_neg h0]
    have hsz : 0 < s.size := Nat.pos_of_ne_zero (fun e => h0 (toList_nil.2 e))
    have hl : bytesOf s = bt s 0 :: (bytesOf s).drop 1 := by have := drop_bt s 0 hsz; rw [List.drop_zero] at this; exact this
    have hname : nameB (bytesOf s) = (letB (bt s 0) && (bytesOf s).all chB && decide ((bytesOf s).length ≤ 16)) := by rw [hl]; rfl
    by_cases h16 : (s.size : Int) > 16
    · simp only [if_pos h16]
      exact no (by rw [hname, show decide ((bytesOf s).length ≤ 16) = false by rw [len_bytes]; simp; omega]; simp) _ rfl
    · simp only [if_neg h16, if_pos (show 0 < (s.size : Int) by omega)]
      by_cases h97 : bt s 0 < 97
      · simp only [if_pos h97]
        exact no (by rw [hname, show letB (bt s 0) = false by unfold letB; simp; omega]; simp) _ rfl
      · simp only [if_neg h97]
        by_cases h122 : bt s 0 > 122
        · exact no (by rw [hname, show letB (bt s 0) = false by unfold letB; simp; omega]; simp) _ (by simp [h122])
        · refine ev_step _ (fun k => ?_) (ev_eq (ev_name_l0 s hs s.size 0 (by omega)) ?_)
          · simp only [key_Name.j0]; rw [if_neg (by simp [h122])]; rfl
          · rw [List.drop_zero, hname, show letB (bt s 0) = true by unfold letB; simp; omega, show decide ((bytesOf s).length ≤ 16) = true by rw [len_bytes]; simp; omega]; simp
theorem ev_rname_l0 (s : ByteArray) (hs : s.size ≤ 4611686018427387904) (h1 : 1 ≤ s.size) : ∀ (m i : Nat), i + m = s.size → Ev (fun k => conductorref03_Name.l0 k s (s.size : Int) (i : Int)) ((if i = 0 then letB (bt s 0) else true) && ((bytesOf s).drop i).all chB && decide ((bytesOf s).length ≤ 16))
  | 0, i, hi => by
    refine ev_none (fun k => ?_)
    simp only [conductorref03_Name.l0]
    rw [if_neg (by omega), if_pos (by omega), List.drop_eq_nil_of_le (by rw [len_bytes]; omega), if_neg (by omega), len_bytes]
    congr 1
    rw [Bool.eq_iff_iff]; simp; omega
  | m + 1, i, hi => by
    have ih := ev_rname_l0 s hs h1 m (i + 1) (by omega)
    have e1 : wrap64 ((i : Int) + 1) = ((i + 1 : Nat) : Int) := by rw [w64 (by omega) (by omega)]; omega
    rw [drop_bt s i (by omega), List.all_cons]
    rw [if_neg (by omega), Bool.true_and] at ih
    obtain ⟨c, hc⟩ : ∃ c, bt s (i : Int) = c := ⟨_, rfl⟩
    have hc0 : i = 0 → bt s 0 = c := by intro h; subst h; exact hc
    have good : letB c = true ∨ (¬ i = 0 ∧ chB c = true) → Ev (fun k => conductorref03_Name.l0 k s (s.size : Int) ((i + 1 : Nat) : Int)) ((if i = 0 then letB (bt s 0) else true) && (chB c && ((bytesOf s).drop (i + 1)).all chB) && decide ((bytesOf s).length ≤ 16)) := by
      intro h
      refine ev_eq ih ?_
      have hch : chB c = true := by rcases h with h | h; unfold chB; rw [h]; simp; exact h.2
      rw [hch, Bool.true_and]
      by_cases hi0 : i = 0
      · rw [if_pos hi0, hc0 hi0]
        rcases h with h | h
        · rw [h, Bool.true_and]
        · exact absurd hi0 h.1
      · rw [if_neg hi0, Bool.true_and]
    have bad : letB c = false → (i = 0 ∨ chB c = false) → ((if i = 0 then letB (bt s 0) else true) && (chB c && ((bytesOf s).drop (i + 1)).all chB) && decide ((bytesOf s).length ≤ 16)) = false := by
      intro h h2
      by_cases hi0 : i = 0
      · rw [if_pos hi0, hc0 hi0, h]; rfl
      · rcases h2 with h2 | h2
        · exact absurd h2 hi0
        · rw [h2]; simp
    rw [hc]
    by_cases hl : letB c = true
    · refine ev_step _ (fun k => ?_) (good (.inl hl))
      have h97 : 97 ≤ c ∧ c ≤ 122 := by unfold letB at hl; simpa using hl
      simp only [conductorref03_Name.l0, hc]
      rw [if_pos (by omega), if_pos (by omega), if_pos (by omega), if_pos (by omega), if_pos (by omega), e1]
    · have hl0 : letB c = false := by simpa using hl
      have h97 : ¬ (97 ≤ c ∧ c ≤ 122) := by unfold letB at hl; simpa using hl
      have hch : chB c = (decide (c = 45) || decide (48 ≤ c ∧ c ≤ 57)) := by unfold chB; rw [hl0]; simp [Bool.or_comm]
      -- what the program does, either way of the first tests
      have tail : ∀ k, conductorref03_Name.l0 (k + 1) s (s.size : Int) (i : Int) = if (i : Int) = 0 then some false else if c = 45 then conductorref03_Name.l0 k s (s.size : Int) (wrap64 ((i : Int) + 1)) else if c < 48 then some false else if c > 57 then some false else conductorref03_Name.l0 k s (s.size : Int) (wrap64 ((i : Int) + 1)) := by
        intro k
        simp only [conductorref03_Name.l0, hc]
        rw [if_pos (by omega), if_pos (by omega), if_pos (by omega)]
        by_cases h : c ≥ 97
        · rw [if_pos h, if_neg (by omega)]
        · rw [if_neg h]
      by_cases hi0 : i = 0
      · refine ev_none (fun k => ?_)
        rw [tail, if_pos (by omega), bad hl0 (.inl hi0)]
      · by_cases hok : chB c = true
        · refine ev_step _ (fun k => ?_) (good (.inr ⟨hi0, hok⟩))
          rw [hch] at hok
          rw [tail, if_neg (by omega), e1]
          simp only [Bool.or_eq_true, decide_eq_true_eq] at hok
          rcases hok with h | h
          · rw [if_pos h]
          · rw [if_neg (by omega), if_neg (by omega), if_neg (by omega)]
        · refine ev_none (fun k => ?_)
          have hok0 : chB c = false := by simpa using hok
          rw [bad hl0 (.inr hok0), tail, if_neg (by omega)]
          rw [hch] at hok0
          simp only [Bool.or_eq_false_iff, decide_eq_false_iff_not] at hok0
          rw [if_neg hok0.1]
          by_cases h48 : c < 48
          · rw [if_pos h48]
          · rw [if_neg h48, if_pos (by omega)]
theorem ev_rname (s : ByteArray) (hs : s.size ≤ 4611686018427387904) : Ev (fun k => conductorref03_Name.f k s) (nameB (bytesOf s)) := by
  unfold conductorref03_Name.f
  by_cases h : s.size = 0
  · have hl : bytesOf s = [] := List.length_eq_zero_iff.1 (by rw [len_bytes]; exact h)
    refine ev_none (fun k => ?_)
    simp only [conductorref03_Name.l0]
    rw [if_neg (by omega), if_neg (by omega), hl]; rfl
  · have := ev_rname_l0 s hs (by omega) s.size 0 (by omega)
    refine ev_eq this ?_
    have hl : bytesOf s = bt s 0 :: (bytesOf s).drop 1 := by have := drop_bt s 0 (by omega); rw [List.drop_zero] at this; exact this
    rw [if_pos rfl, List.drop_zero, hl]; rfl
end Go.Proofs.Ytnkcooeobmeahaa.K3
