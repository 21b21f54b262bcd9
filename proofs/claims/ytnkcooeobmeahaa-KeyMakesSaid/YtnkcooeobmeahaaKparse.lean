/- The parts of a key: the program's Parse. -/
import Derived.Test.YtnkcooeobmeahaaZ14
import Derived.Test.YtnkcooeobmeahaaKmake
namespace Go.Proofs.Ytnkcooeobmeahaa.K3
open Go.RowKit Go.Proofs.Ytnkcooeobmeahaa.Z Go.Proofs.YtnkcooeobmeahaaW.PrintWords Go.Proofs.YtnkcooeobmeahaaW.PrintLast Go.Proofs.YtnkcooeobmeahaaW.PrintMore Go.Proofs.Ytnkcooeobmeahaa.PB
set_option linter.unusedVariables false
set_option linter.unusedSimpArgs false
/-- The first part, and what stands behind it. -/
def fs : List Int → List Int → Option (List Int × List Int)
  | c :: d :: r, now => if c = 0 then (if d = 1 then some (now, r) else if d = 255 then fs r (now ++ [0]) else none) else fs (d :: r) (now ++ [c])
  | _, _ => none
termination_by l => l.length
theorem fs_nil (now : List Int) : fs [] now = none := by rw [fs]; simp
theorem fs_one (c : Int) (now : List Int) : fs [c] now = none := by rw [fs]; simp
theorem fs_cons {c : Int} (d : Int) (r now : List Int) (h : ¬ c = 0) : fs (c :: d :: r) now = fs (d :: r) (now ++ [c]) := by rw [fs, if_neg h]
theorem fs_cons' {c : Int} (r now : List Int) (h : ¬ c = 0) : fs (c :: r) now = fs r (now ++ [c]) := by
  cases r with
  | nil => rw [fs_one, fs_nil]
  | cons d r => exact fs_cons d r now h
theorem fs_zero (d : Int) (r now : List Int) : fs (0 :: d :: r) now = if d = 1 then some (now, r) else if d = 255 then fs r (now ++ [0]) else none := by rw [fs, if_pos rfl]
theorem fs_len : ∀ (n : Nat) (l now p r : List Int), l.length ≤ n → fs l now = some (p, r) → r.length < l.length := by
  intro n
  induction n with
  | zero => intro l now p r hl h; have e : l = [] := List.length_eq_zero_iff.1 (by omega); rw [e, fs_nil] at h; cases h
  | succ n ih =>
    intro l now p r hl h
    match l with
    | [] => rw [fs_nil] at h; cases h
    | [c] => rw [fs_one] at h; cases h
    | c :: d :: l =>
      simp only [List.length_cons] at hl ⊢
      by_cases hc : c = 0
      · subst hc
        rw [fs_zero] at h
        by_cases h1 : d = 1
        · rw [if_pos h1] at h; injection h with h; injection h with _ h; subst h; omega
        · rw [if_neg h1] at h
          by_cases h2 : d = 255
          · rw [if_pos h2] at h
            have := ih _ _ _ _ (by omega) h; omega
          · rw [if_neg h2] at h; cases h
      · rw [fs_cons _ _ _ hc] at h
        have := ih _ _ _ _ (by simp; omega) h
        simp only [List.length_cons] at this; omega
/-- All parts. -/
def pk (l : List Int) : Option (List (List Int)) :=
  if l = [] then some [] else
    match h : fs l [] with
    | none => none
    | some (p, r) => (pk r).map fun ps => p :: ps
termination_by l.length
decreasing_by exact fs_len _ _ _ _ _ (Nat.le_refl _) h
theorem pk_nil : pk [] = some [] := by rw [pk]; simp
theorem pk_none {l : List Int} (h0 : ¬ l = []) (h : fs l [] = none) : pk l = none := by
  rw [pk, if_neg h0]
  split
  · rfl
  · rename_i h2; rw [h] at h2; cases h2
theorem pk_some {l p r : List Int} (h0 : ¬ l = []) (h : fs l [] = some (p, r)) : pk l = (pk r).map fun ps => p :: ps := by
  rw [pk, if_neg h0]
  split
  · rename_i h2; rw [h] at h2; cases h2
  · rename_i p' r' h2; rw [h] at h2; injection h2 with h2; injection h2 with h2 h3; rw [h2, h3]

theorem fs_enc : ∀ (p X now : List Int), fs (encP p ++ X) now = some (now ++ p, X)
  | [], X, now => by
    show fs (0 :: 1 :: X) now = _
    rw [fs_zero, if_pos rfl, List.append_nil]
  | c :: p, X, now => by
    have ih := fs_enc p X (now ++ [c])
    have e : encP (c :: p) ++ X = esc c ++ (encP p ++ X) := by simp [encP, List.append_assoc]
    rw [e]
    by_cases h : c = 0
    · subst h
      show fs (0 :: 255 :: (encP p ++ X)) now = _
      rw [fs_zero, if_neg (by decide), if_pos rfl, ih]
      simp [List.append_assoc]
    · have e2 : esc c ++ (encP p ++ X) = c :: (encP p ++ X) := by unfold esc; rw [if_neg h]; rfl
      rw [e2, fs_cons' _ _ h, ih]
      simp [List.append_assoc]
theorem pk_enc : ∀ ps : List (List Int), pk (ps.flatMap encP) = some ps
  | [] => pk_nil
  | p :: ps => by
    have h0 : ¬ (p :: ps).flatMap encP = [] := by simp [encP]
    rw [pk_some h0 (p := p) (r := ps.flatMap encP) (by rw [List.flatMap_cons]; have := fs_enc p (ps.flatMap encP) []; rwa [List.nil_append] at this), pk_enc ps]
    rfl
theorem fs_of : ∀ (n : Nat) (l now p r : List Int), l.length ≤ n → fs l now = some (p, r) → ∃ q, p = now ++ q ∧ l = encP q ++ r := by
  intro n
  induction n with
  | zero => intro l now p r hl h; have e : l = [] := List.length_eq_zero_iff.1 (by omega); rw [e, fs_nil] at h; cases h
  | succ n ih =>
    intro l now p r hl h
    match l with
    | [] => rw [fs_nil] at h; cases h
    | [c] => rw [fs_one] at h; cases h
    | c :: d :: l =>
      simp only [List.length_cons] at hl
      by_cases hc : c = 0
      · subst hc
        rw [fs_zero] at h
        by_cases h1 : d = 1
        · rw [if_pos h1] at h; injection h with h; injection h with h2 h; subst h; subst h1; subst h2
          exact ⟨[], by simp, by simp [encP]⟩
        · rw [if_neg h1] at h
          by_cases h2 : d = 255
          · rw [if_pos h2] at h
            obtain ⟨q, hq, hl2⟩ := ih _ _ _ _ (by omega) h
            subst h2
            exact ⟨0 :: q, by rw [hq]; simp [List.append_assoc], by rw [hl2]; simp [encP, esc]⟩
          · rw [if_neg h2] at h; cases h
      · rw [fs_cons _ _ _ hc] at h
        obtain ⟨q, hq, hl2⟩ := ih _ _ _ _ (by simp; omega) h
        exact ⟨c :: q, by rw [hq]; simp [List.append_assoc], by rw [hl2]; simp [encP, esc, hc]⟩
theorem pk_of : ∀ (n : Nat) (l : List Int) (ps : List (List Int)), l.length ≤ n → pk l = some ps → l = ps.flatMap encP := by
  intro n
  induction n with
  | zero =>
    intro l ps hl h
    have : l = [] := List.length_eq_zero_iff.1 (by omega)
    subst this
    rw [pk_nil] at h; injection h with h; subst h; rfl
  | succ n ih =>
    intro l ps hl h
    by_cases h0 : l = []
    · subst h0; rw [pk_nil] at h; injection h with h; subst h; rfl
    · cases hf : fs l [] with
      | none => rw [pk_none h0 hf] at h; cases h
      | some x =>
        obtain ⟨p, r⟩ := x
        rw [pk_some h0 hf] at h
        obtain ⟨qs, hq, rfl⟩ := Option.map_eq_some_iff.1 h
        obtain ⟨q, hp, hl2⟩ := fs_of _ _ _ _ _ (Nat.le_refl _) hf
        have hlen := fs_len _ _ _ _ _ (Nat.le_refl _) hf
        have := ih r qs (by omega) hq
        rw [List.nil_append] at hp
        subst hp
        rw [hl2, this]; rfl
theorem fs_isB : ∀ (n : Nat) (l now p r : List Int), l.length ≤ n → IsB l → IsB now → fs l now = some (p, r) → IsB p ∧ IsB r := by
  intro n
  induction n with
  | zero => intro l now p r hl _ _ h; have e : l = [] := List.length_eq_zero_iff.1 (by omega); rw [e, fs_nil] at h; cases h
  | succ n ih =>
    intro l now p r hl hB hN h
    match l with
    | [] => rw [fs_nil] at h; cases h
    | [c] => rw [fs_one] at h; cases h
    | c :: d :: l =>
      simp only [List.length_cons] at hl
      have h1 := isB_cons.1 hB
      have h2 := isB_cons.1 h1.2
      by_cases hc : c = 0
      · subst hc
        rw [fs_zero] at h
        by_cases h3 : d = 1
        · rw [if_pos h3] at h; injection h with h; injection h with h4 h; subst h; subst h4
          exact ⟨hN, h2.2⟩
        · rw [if_neg h3] at h
          by_cases h4 : d = 255
          · rw [if_pos h4] at h
            exact ih _ _ _ _ (by omega) h2.2 (isB_app.2 ⟨hN, isB_cons.2 ⟨by omega, isB_nil⟩⟩) h
          · rw [if_neg h4] at h; cases h
      · rw [fs_cons _ _ _ hc] at h
        exact ih _ _ _ _ (by simp; omega) h1.2 (isB_app.2 ⟨hN, isB_cons.2 ⟨h1.1, isB_nil⟩⟩) h

/-- What a Parse tells: kind, parts, what is wrong. -/
def psR (kind : Int) (o : Option (List (List Int))) : Int × List ByteArray × Int := match o with | some ps => (kind, ps.map strOfNums, 0) | none => (0, [], 31)
/-- From within a part on. -/
def pk1 (l now : List Int) : Option (List (List Int)) := match fs l now with | none => none | some (p, r) => (pk r).map fun ps => p :: ps
theorem pk1_nil {l : List Int} (h : ¬ l = []) : pk l = pk1 l [] := by
  unfold pk1
  cases hf : fs l [] with
  | none => rw [pk_none h hf]
  | some x => obtain ⟨p, r⟩ := x; rw [pk_some h hf]
theorem ev_parse_l0 (s : ByteArray) (hs : s.size ≤ 1000000) (kind : Int) (hk : bt s 0 = kind) (h1 : 1 ≤ s.size) : ∀ (n i : Nat), s.size - i ≤ n → i ≤ s.size →
    (∀ (out : List (List Int)), out.length ≤ i → Ev (fun k => key_Parse.l0 k s (out.map strOfNums) ([] : List Int) false (i : Int)) (psR kind ((pk ((bytesOf s).drop i)).map fun ps => out ++ ps))) ∧
    (∀ (out : List (List Int)) (now : List Int), out.length ≤ i → now.length ≤ i → Ev (fun k => key_Parse.l0 k s (out.map strOfNums) now true (i : Int)) (psR kind ((pk1 ((bytesOf s).drop i) now).map fun ps => out ++ ps))) := by
  intro n
  induction n with
  | zero =>
    intro i hn hi
    have hd : (bytesOf s).drop i = [] := List.drop_eq_nil_of_le (by rw [len_bytes]; omega)
    rw [hd]
    refine ⟨fun out ho => ev_none (fun k => ?_), fun out now ho hnow => ev_none (fun k => ?_)⟩
    · simp only [key_Parse.l0]
      rw [if_neg (by omega), if_neg (by decide), if_pos (by omega), pk_nil, hk]
      simp [psR]
    · simp only [key_Parse.l0]
      rw [if_neg (by omega), if_pos trivial]
      simp [pk1, fs_nil, psR]
  | succ n ih =>
    intro i hn hi
    by_cases hlt : i < s.size
    · -- one step, whatever came before
      have step : ∀ (out : List (List Int)) (now : List Int) (op : Bool), out.length ≤ i → now.length ≤ i → Ev (fun k => key_Parse.l0 k s (out.map strOfNums) now op (i : Int)) (psR kind ((pk1 ((bytesOf s).drop i) now).map fun ps => out ++ ps)) := by
        intro out now op ho hnow
        have e1 : wrap64 ((i : Int) + 1) = ((i + 1 : Nat) : Int) := by rw [w64 (by omega) (by omega)]; omega
        have e2 : wrap64 (((i + 1 : Nat) : Int) + 1) = ((i + 2 : Nat) : Int) := by rw [w64 (by omega) (by omega)]; omega
        rw [drop_bt s i hlt]
        have hb := bt_bound s (i : Int)
        by_cases h0 : bt s (i : Int) = 0
        · rw [h0]
          by_cases hend : i + 1 = s.size
          · have hd : (bytesOf s).drop (i + 1) = [] := List.drop_eq_nil_of_le (by rw [len_bytes]; omega)
            refine ev_none (fun k => ?_)
            simp only [key_Parse.l0, e1]
            rw [if_pos (by omega), if_pos (by omega), if_pos h0, if_pos (by omega), hd]
            simp [pk1, fs_one, psR]
          · rw [drop_bt s (i + 1) (by omega)]
            by_cases h255 : bt s ((i + 1 : Nat) : Int) = 255
            · have := (ih (i + 2) (by omega) (by omega)).2 out (now ++ [0]) (by omega) (by simp; omega)
              refine ev_step _ (fun k => ?_) (ev_eq this ?_)
              · simp only [key_Parse.l0, e1, e2]
                rw [if_pos (by omega), if_pos (by omega), if_pos h0, if_neg (by omega), if_pos (by omega), if_pos (by omega), if_pos h255, if_pos (by omega)]
              · unfold pk1
                rw [fs_zero, if_neg (by omega), if_pos h255]
            · by_cases h1' : bt s ((i + 1 : Nat) : Int) = 1
              · have := (ih (i + 2) (by omega) (by omega)).1 (out ++ [now]) (by simp; omega)
                refine ev_step _ (fun k => ?_) (ev_eq this ?_)
                · simp only [key_Parse.l0, e1, e2]
                  rw [if_pos (by omega), if_pos (by omega), if_pos h0, if_neg (by omega), if_pos (by omega), if_pos (by omega), if_neg h255, if_pos h1', if_pos (by rw [List.length_map]; omega)]
                  rw [List.map_append]; rfl
                · unfold pk1
                  rw [fs_zero, if_pos h1']
                  show _ = psR kind (((pk (List.drop (i + 2) (bytesOf s))).map fun ps => now :: ps).map fun ps => out ++ ps)
                  obtain ⟨o, hoe⟩ : ∃ o, pk (List.drop (i + 2) (bytesOf s)) = o := ⟨_, rfl⟩
                  rw [hoe]
                  cases o <;> simp [psR]
              · refine ev_none (fun k => ?_)
                simp only [key_Parse.l0, e1]
                rw [if_pos (by omega), if_pos (by omega), if_pos h0, if_neg (by omega), if_pos (by omega), if_pos (by omega), if_neg h255, if_neg h1']
                unfold pk1
                rw [fs_zero, if_neg h1', if_neg h255]
                simp [psR]
        · have := (ih (i + 1) (by omega) (by omega)).2 out (now ++ [bt s (i : Int)]) (by omega) (by simp; omega)
          refine ev_step _ (fun k => ?_) (ev_eq this ?_)
          · simp only [key_Parse.l0, e1]
            rw [if_pos (by omega), if_pos (by omega), if_neg h0, if_pos (by omega)]
          · unfold pk1
            rw [fs_cons' _ _ h0]
      refine ⟨fun out ho => ?_, fun out now ho hnow => step out now true ho hnow⟩
      have := step out [] false ho (by simp)
      rw [pk1_nil (by rw [drop_bt s i hlt]; simp)]
      exact this
    · exact ih i (by omega) hi
theorem ev_parse (s : ByteArray) (hs : s.size ≤ 1000000) : Ev (fun k => key_Parse.f k s) (if s.size = 0 then (0, [], 31) else psR (bt s 0) (pk ((bytesOf s).drop 1))) := by
  unfold key_Parse.f
  by_cases h : s.size = 0
  · rw [if_pos h]
    simp only [if_pos (toList_nil.2 h)]
    exact Ev.now _
  · rw [if_neg h]
    simp only [if_neg (fun e => h (toList_nil.1 e))]
    have := (ev_parse_l0 s hs _ rfl (by omega) (s.size - 1) 1 (by omega) (by omega)).1 [] (by simp)
    refine ev_eq this ?_
    cases pk (List.drop 1 (bytesOf s)) <;> simp
end Go.Proofs.Ytnkcooeobmeahaa.K3
