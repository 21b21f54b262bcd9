/- ValueSets. -/
import Derived.Test.YtekiaempcgjejaaVW
import Derived.Test.YtekiaempcgjejaaV3
namespace Go.Proofs.Ytekiaempcgjejaa.Asl
open Go Go.RowKit
set_option linter.unusedVariables false
set_option linter.unusedSimpArgs false
set_option maxRecDepth 100000
set_option maxHeartbeats 4000000
theorem getV_set (x : VarV) : ∀ l, getV (setV l x) x.n = ((x.k, x.v, x.s), true) := by
  intro l
  unfold setV
  split
  · rename_i h
    induction l with
    | nil => simp [hasV] at h
    | cons y l ih =>
      simp only [hasV] at h
      simp only [replV]
      split
      · simp [getV]
      · rename_i h1
        rw [if_neg h1] at h
        simp only [getV, if_neg h1]
        exact ih h
  · induction l with
    | nil => simp [insV, getV]
    | cons y l ih =>
      rename_i h
      simp only [hasV] at h
      have h1 : ¬ y.n = x.n := fun e => by rw [if_pos e] at h; exact h rfl
      rw [if_neg h1] at h
      simp only [insV]
      split
      · simp only [getV, if_neg h1]; exact ih h
      · simp [getV]
theorem getV_other (x : VarV) (m : ByteArray) (hm : m ≠ x.n) : ∀ l, getV (setV l x) m = getV l m := by
  have r : ∀ l, getV (replV x l) m = getV l m := by
    intro l
    induction l with
    | nil => rfl
    | cons y l ih =>
      simp only [replV]
      split
      · rename_i h1
        simp only [getV]
        rw [if_neg (fun e => hm e.symm), if_neg (fun e => hm (by rw [← e, h1]))]
      · simp only [getV, ih]
  have i : ∀ l, getV (insV x l) m = getV l m := by
    intro l
    induction l with
    | nil => simp only [insV, getV]; rw [if_neg (fun e => hm e.symm)]
    | cons y l ih =>
      simp only [insV]
      split
      · simp only [getV, ih]
      · simp only [getV]; rw [if_neg (fun e => hm e.symm)]
  intro l
  unfold setV
  split
  · exact r l
  · exact i l
theorem sless_total {a b : ByteArray} (h : sless a b = false) (hne : a ≠ b) : sless b a = true := by
  unfold sless at *
  rw [less_bytes] at *
  cases h2 : ltb (bytesOf b) (bytesOf a) with
  | true => rfl
  | false => exact absurd (bytes_inj (ltb_total _ _ h h2)) hne
theorem chkV_cons {last : ByteArray} {x : VarV} {l : List VarV} : chkV last (x :: l) = 0 ↔ nameB (bytesOf x.n) = true ∧ sless last x.n = true ∧ rightE x.k x.v x.s = 0 ∧ chkV x.n l = 0 := by
  simp only [chkV]
  constructor
  · intro h
    split at h
    · cases h
    · rename_i h1
      split at h
      · cases h
      · rename_i h2
        split at h
        · rename_i h3; exact absurd h h3
        · rename_i h3; exact ⟨by simpa using h1, by simpa using h2, by simpa using h3, h⟩
  · rintro ⟨h1, h2, h3, h4⟩
    rw [if_neg (by simp [h1]), if_neg (by simp [h2]), if_neg (by simp [h3]), h4]
theorem chkV_set (x : VarV) (hn : nameB (bytesOf x.n) = true) (hr : rightE x.k x.v x.s = 0) : ∀ (l : List VarV) (last : ByteArray), chkV last l = 0 → sless last x.n = true → chkV last (setV l x) = 0 := by
  have r : ∀ (l : List VarV) (last : ByteArray), chkV last l = 0 → sless last x.n = true → chkV last (replV x l) = 0 := by
    intro l
    induction l with
    | nil => intro _ _ _; rfl
    | cons y l ih =>
      intro last h1 h2
      obtain ⟨a, b, c, d⟩ := chkV_cons.1 h1
      simp only [replV]
      split
      · rename_i e
        exact chkV_cons.2 ⟨hn, h2, hr, by rw [← e]; exact d⟩
      · rename_i e
        by_cases hlt : sless y.n x.n = true
        · exact chkV_cons.2 ⟨a, b, c, ih _ d hlt⟩
        · have hgt := sless_total (by simpa using hlt) e
          have key : ∀ (l : List VarV) (z : ByteArray), chkV z l = 0 → sless x.n z = true → replV x l = l := by
            intro l
            induction l with
            | nil => intro _ _ _; rfl
            | cons w l ih2 =>
              intro z k1 k2
              obtain ⟨a', b', c', d'⟩ := chkV_cons.1 k1
              have k3 : sless x.n w.n = true := by
                unfold sless at *
                rw [less_bytes] at *
                exact ltb_trans _ _ _ k2 b'
              have k4 : w.n ≠ x.n := fun e => by
                rw [e] at k3
                unfold sless at k3
                rw [less_bytes, ltb_irr] at k3; cases k3
              simp only [replV, if_neg k4, ih2 _ d' k3]
          rw [key l _ d hgt]
          exact h1
  have i : ∀ (l : List VarV) (last : ByteArray), hasV x.n l = false → chkV last l = 0 → sless last x.n = true → chkV last (insV x l) = 0 := by
    intro l
    induction l with
    | nil => intro last _ _ h2; exact chkV_cons.2 ⟨hn, h2, hr, rfl⟩
    | cons y l ih =>
      intro last h0 h1 h2
      obtain ⟨a, b, c, d⟩ := chkV_cons.1 h1
      simp only [hasV] at h0
      split at h0
      · cases h0
      · rename_i e
        simp only [insV]
        split
        · rename_i hlt
          exact chkV_cons.2 ⟨a, b, c, ih _ h0 d hlt⟩
        · rename_i hlt
          have hgt := sless_total (by simpa using hlt) e
          exact chkV_cons.2 ⟨hn, h2, hr, chkV_cons.2 ⟨a, hgt, c, d⟩⟩
  intro l last h1 h2
  unfold setV
  split
  · exact r l last h1 h2
  · rename_i h; exact i l last (by simpa using h) h1 h2
theorem vars_set (l : List VarV) (x : VarV) (h1 : varsE l = 0) (h2 : varsE [x] = 0) : varsE (setV l x) = 0 ∨ varsE (setV l x) = 3 ∧ 8 < (setV l x).length := by
  unfold varsE at *
  split at h1
  · cases h1
  rw [if_neg (by simp)] at h2
  obtain ⟨a, b, c, _⟩ := chkV_cons.1 h2
  split
  · rename_i h; exact .inr ⟨rfl, h⟩
  · exact .inl (chkV_set x a c l _ h1 b)
def fewB (l : List VarV) : Bool := l.all (fun x => decide (x.n.size ≤ 100) && decide (x.s.size ≤ 200)) && decide (l.length ≤ 40)
theorem c_few4 (l : List VarV) (hl : l.length < 9223372036854775808) : CallD Try.prog 19 [.sl 4 (l.map varAV)] noHeap (.raw (.bool (fewB l))) noHeap := by
  unfold fewB
  refine calls_go (nt := 26) (rs := [.tmp 2]) Try.func19 rfl rfl rfl (by simp) (by intro id h; simp at h <;> omega) ?_; intro Q hQ hW
  repeat' (first
    | (with_reducible refine run_n ?_; with_reducible first | refine hK _ _ (by simp) ?_ | refine hK _ _ ?_; clear hK K)
    | (with_reducible first | refine awp_seq ?_ | refine then_n ?_ | refine then_r ?_ | refine then_e ?_ | refine awp_skip ?_ | refine awp_label ?_ | refine awp_ret ?_ | refine awp_exit ?_ | refine awp_block ?_ | refine awp_scope ?_ | refine in_n ?_ | refine in_r ?_ | refine in_e ?_ | refine in_ne (by decide) ?_ | refine ng_n ?_ | refine ng_r ?_ | refine ng_e ?_)
    | (with_reducible refine awp_regT (by kernel_rfl) ?_; intro K hK)
    | (with_reducible refine a_cond (ht := ?_) (hf := ?_) <;> intro hb <;> (try simp at hb) <;> (try contradiction) <;> (try subst hb) <;> (try omega))
    | (with_reducible first | refine a_move (hr := ?_) | refine a_assign (hr := ?_) | refine a_load (hr := ?_) | refine a_fieldAddr (hr := ?_) | refine a_bin (hr := ?_) | refine a_lenS (hr := ?_) | refine a_lenR (hr := ?_) | refine a_pick (hr := ?_) | refine a_store (hr := ?_) | refine a_alloc (hr := ?_) | refine a_idxArr (hr := ?_) | refine a_indexAddr (hr := ?_) | refine a_gT (hr := ?_) | refine a_gF (hr := ?_) | refine a_gU (hr := ?_))
    | (with_reducible refine a_gB (hT := ?_) (hF := ?_) <;> intro hb <;> (try simp at hb) <;> (try contradiction) <;> (try subst hb) <;> (try omega))
    | fail)
  refine awp_inv (α := Nat) (fun i => [(0, .sl 4 (l.map varAV)), (5, .sl 4 (l.map varAV)), (6, .raw (.int .i64 l.length)), (7, .raw (.int .i64 i))]) (fun _ => hpL []) (fun i => i ≤ l.length ∧ (l.drop i).all (fun x => decide (x.n.size ≤ 100) && decide (x.s.size ≤ 200)) = l.all (fun x => decide (x.n.size ≤ 100) && decide (x.s.size ≤ 200))) (fun i => l.length - i) 0 ⟨by simp, by simp⟩ (weak_o (by repeat' (first | refine sub_ohp (by first | (simp; done) | (intro hne; simp at hne; simp [hne])) (by simp) ?_ | exact sub_hpL (by simp))) (by simp) (by simp <;> omega)) ?_
  rintro i ⟨g1, g2⟩
  rw [← g2] at hQ
  rcases Nat.lt_or_ge i l.length with hlt | hge
  · have hx := List.getElem?_eq_getElem hlt
    rw [List.drop_eq_getElem_cons hlt] at g2 hQ
    generalize l[i] = y at hx g2 hQ
    obtain ⟨yn, yk, yv, ys⟩ := y
    simp only [List.all_cons] at g2 hQ
    by_cases h1 : yn.size ≤ 100
    · by_cases h2 : ys.size ≤ 200
      · rw [decide_eq_true h1, decide_eq_true h2] at g2 hQ
        repeat' (first
    | (with_reducible refine run_n ?_; with_reducible first | refine hK _ _ (by simp) ?_ | refine hK _ _ ?_; clear hK K)
    | (with_reducible first | refine awp_seq ?_ | refine then_n ?_ | refine then_r ?_ | refine then_e ?_ | refine awp_skip ?_ | refine awp_label ?_ | refine awp_ret ?_ | refine awp_exit ?_ | refine awp_block ?_ | refine awp_scope ?_ | refine in_n ?_ | refine in_r ?_ | refine in_e ?_ | refine in_ne (by decide) ?_ | refine ng_n ?_ | refine ng_r ?_ | refine ng_e ?_)
    | (with_reducible refine awp_regT (by kernel_rfl) ?_; intro K hK)
    | (with_reducible refine a_cond (ht := ?_) (hf := ?_) <;> intro hb <;> (try simp at hb) <;> (try contradiction) <;> (try subst hb) <;> (try omega))
    | (with_reducible first | refine a_move (hr := ?_) | refine a_assign (hr := ?_) | refine a_load (hr := ?_) | refine a_fieldAddr (hr := ?_) | refine a_bin (hr := ?_) | refine a_lenS (hr := ?_) | refine a_lenR (hr := ?_) | refine a_pick (hr := ?_) | refine a_store (hr := ?_) | refine a_alloc (hr := ?_) | refine a_idxArr (hr := ?_) | refine a_indexAddr (hr := ?_) | refine a_gT (hr := ?_) | refine a_gF (hr := ?_) | refine a_gU (hr := ?_))
    | (with_reducible refine a_gB (hT := ?_) (hF := ?_) <;> intro hb <;> (try simp at hb) <;> (try contradiction) <;> (try subst hb) <;> (try omega))
    | fail)
        exact ⟨i + 1, by omega, ⟨by omega, g2⟩, weak_o (by repeat' (first | refine sub_ohp (by first | (simp; done) | (intro hne; simp at hne; simp [hne])) (by simp) ?_ | exact sub_hpL (by simp))) (by simp) (by simp <;> omega)⟩
      · rw [decide_eq_false h2] at g2 hQ
        simp only [Bool.and_false, Bool.false_and] at g2 hQ
        repeat' (first
    | (with_reducible refine run_n ?_; with_reducible first | refine hK _ _ (by simp) ?_ | refine hK _ _ ?_; clear hK K)
    | (with_reducible first | refine awp_seq ?_ | refine then_n ?_ | refine then_r ?_ | refine then_e ?_ | refine awp_skip ?_ | refine awp_label ?_ | refine awp_ret ?_ | refine awp_exit ?_ | refine awp_block ?_ | refine awp_scope ?_ | refine in_n ?_ | refine in_r ?_ | refine in_e ?_ | refine in_ne (by decide) ?_ | refine ng_n ?_ | refine ng_r ?_ | refine ng_e ?_)
    | (with_reducible refine awp_regT (by kernel_rfl) ?_; intro K hK)
    | (with_reducible refine a_cond (ht := ?_) (hf := ?_) <;> intro hb <;> (try simp at hb) <;> (try contradiction) <;> (try subst hb) <;> (try omega))
    | (with_reducible first | refine a_move (hr := ?_) | refine a_assign (hr := ?_) | refine a_load (hr := ?_) | refine a_fieldAddr (hr := ?_) | refine a_bin (hr := ?_) | refine a_lenS (hr := ?_) | refine a_lenR (hr := ?_) | refine a_pick (hr := ?_) | refine a_store (hr := ?_) | refine a_alloc (hr := ?_) | refine a_idxArr (hr := ?_) | refine a_indexAddr (hr := ?_) | refine a_gT (hr := ?_) | refine a_gF (hr := ?_) | refine a_gU (hr := ?_))
    | (with_reducible refine a_gB (hT := ?_) (hF := ?_) <;> intro hb <;> (try simp at hb) <;> (try contradiction) <;> (try subst hb) <;> (try omega))
    | fail)
        (refine hQ _ _ _ _ (by first | exact .inr rfl | exact .inl rfl) (by simp; exact .r) (by simp; exact .r) ?_)
        exact Fin.drop (by simp; exact .r) (by simp)
    · rw [decide_eq_false h1] at g2 hQ
      simp only [Bool.false_and] at g2 hQ
      repeat' (first
    | (with_reducible refine run_n ?_; with_reducible first | refine hK _ _ (by simp) ?_ | refine hK _ _ ?_; clear hK K)
    | (with_reducible first | refine awp_seq ?_ | refine then_n ?_ | refine then_r ?_ | refine then_e ?_ | refine awp_skip ?_ | refine awp_label ?_ | refine awp_ret ?_ | refine awp_exit ?_ | refine awp_block ?_ | refine awp_scope ?_ | refine in_n ?_ | refine in_r ?_ | refine in_e ?_ | refine in_ne (by decide) ?_ | refine ng_n ?_ | refine ng_r ?_ | refine ng_e ?_)
    | (with_reducible refine awp_regT (by kernel_rfl) ?_; intro K hK)
    | (with_reducible refine a_cond (ht := ?_) (hf := ?_) <;> intro hb <;> (try simp at hb) <;> (try contradiction) <;> (try subst hb) <;> (try omega))
    | (with_reducible first | refine a_move (hr := ?_) | refine a_assign (hr := ?_) | refine a_load (hr := ?_) | refine a_fieldAddr (hr := ?_) | refine a_bin (hr := ?_) | refine a_lenS (hr := ?_) | refine a_lenR (hr := ?_) | refine a_pick (hr := ?_) | refine a_store (hr := ?_) | refine a_alloc (hr := ?_) | refine a_idxArr (hr := ?_) | refine a_indexAddr (hr := ?_) | refine a_gT (hr := ?_) | refine a_gF (hr := ?_) | refine a_gU (hr := ?_))
    | (with_reducible refine a_gB (hT := ?_) (hF := ?_) <;> intro hb <;> (try simp at hb) <;> (try contradiction) <;> (try subst hb) <;> (try omega))
    | fail)
      (refine hQ _ _ _ _ (by first | exact .inr rfl | exact .inl rfl) (by simp; exact .r) (by simp; exact .r) ?_)
      exact Fin.drop (by simp; exact .r) (by simp)
  · obtain rfl : i = l.length := by omega
    rw [List.drop_length] at hQ
    simp only [List.all_nil, Bool.true_and] at hQ
    rw [show decide (l.length ≤ 40) = decide ((l.length : Int) ≤ 40) from decide_eq_decide.2 (by omega)] at hQ
    repeat' (first
    | (with_reducible refine run_n ?_; with_reducible first | refine hK _ _ (by simp) ?_ | refine hK _ _ ?_; clear hK K)
    | (with_reducible first | refine awp_seq ?_ | refine then_n ?_ | refine then_r ?_ | refine then_e ?_ | refine awp_skip ?_ | refine awp_label ?_ | refine awp_ret ?_ | refine awp_exit ?_ | refine awp_block ?_ | refine awp_scope ?_ | refine in_n ?_ | refine in_r ?_ | refine in_e ?_ | refine in_ne (by decide) ?_ | refine ng_n ?_ | refine ng_r ?_ | refine ng_e ?_)
    | (with_reducible refine awp_regT (by kernel_rfl) ?_; intro K hK)
    | (with_reducible refine a_cond (ht := ?_) (hf := ?_) <;> intro hb <;> (try simp at hb) <;> (try contradiction) <;> (try subst hb) <;> (try omega))
    | (with_reducible first | refine a_move (hr := ?_) | refine a_assign (hr := ?_) | refine a_load (hr := ?_) | refine a_fieldAddr (hr := ?_) | refine a_bin (hr := ?_) | refine a_lenS (hr := ?_) | refine a_lenR (hr := ?_) | refine a_pick (hr := ?_) | refine a_store (hr := ?_) | refine a_alloc (hr := ?_) | refine a_idxArr (hr := ?_) | refine a_indexAddr (hr := ?_) | refine a_gT (hr := ?_) | refine a_gF (hr := ?_) | refine a_gU (hr := ?_))
    | (with_reducible refine a_gB (hT := ?_) (hF := ?_) <;> intro hb <;> (try simp at hb) <;> (try contradiction) <;> (try subst hb) <;> (try omega))
    | fail)
    (refine hQ _ _ _ _ (by first | exact .inr rfl | exact .inl rfl) (by simp; exact .r) (by simp; exact .r) ?_)
    exact Fin.drop (by simp; exact .r) (by simp)
theorem law_ValueSets (l : List VarV) (x : VarV) (m : ByteArray) (hl : l.length < 9223372036854775808) (hm : m.size < 9223372036854775808) : CallD Try.prog 7 [.sl 4 (l.map varAV), varAV x, .raw (.string m)] noHeap (.raw (.bool true)) noHeap := by
  have hlv := c_Live4
  have f1 := c_few4 l hl
  have f2 := c_few4 [x] (by simp)
  by_cases hB : fewB l = true ∧ fewB [x] = true ∧ m.size ≤ 100
  · obtain ⟨hB1, hB2, hB3⟩ := hB
    rw [hB1] at f1
    rw [hB2] at f2
    simp only [fewB, Bool.and_eq_true, decide_eq_true_eq, List.all_eq_true] at hB1 hB2
    have hxn := (hB2.1 x (by simp)).1
    have s1 := c_Set l x (by omega)
    have hlen := setV_len x l
    have g1 := c_Get (setV l x) x.n (by omega)
    have g2 := c_Get l m (by omega)
    have g3 := c_Get (setV l x) m (by omega)
    rw [getV_set] at g1
    have v1 := c_Vars l hl (fun y hy => by have := (hB1.1 y hy).1; omega)
    have v2 := c_Vars [x] (by simp) (fun y hy => by simp at hy; subst hy; omega)
    have hmem : ∀ y ∈ setV l x, y ∈ l ∨ y = x := by
      unfold setV
      split
      · have : ∀ l : List VarV, ∀ y ∈ replV x l, y ∈ l ∨ y = x := by
          intro l
          induction l with
          | nil => intro y hy; simp [replV] at hy
          | cons z l ih =>
            intro y hy
            simp only [replV] at hy
            split at hy
            · rcases List.mem_cons.1 hy with h | h
              · exact .inr h
              · exact .inl (List.mem_cons_of_mem _ h)
            · rcases List.mem_cons.1 hy with h | h
              · exact .inl (by simp [h])
              · rcases ih y h with h | h
                · exact .inl (List.mem_cons_of_mem _ h)
                · exact .inr h
        exact this l
      · have : ∀ l : List VarV, ∀ y ∈ insV x l, y ∈ l ∨ y = x := by
          intro l
          induction l with
          | nil => intro y hy; simp [insV] at hy; exact .inr hy
          | cons z l ih =>
            intro y hy
            simp only [insV] at hy
            split at hy
            · rcases List.mem_cons.1 hy with h | h
              · exact .inl (by simp [h])
              · rcases ih y h with h | h
                · exact .inl (List.mem_cons_of_mem _ h)
                · exact .inr h
            · rcases List.mem_cons.1 hy with h | h
              · exact .inr h
              · exact .inl h
        exact this l
    have v3 := c_Vars (setV l x) (by omega) (fun y hy => by
      rcases hmem y hy with h | rfl
      · have := (hB1.1 y h).1; omega
      · omega)
    have hvs := vars_set l x
    have hoth := getV_other x m
    generalize varsE l = e1 at v1 hvs
    generalize varsE [x] = e2 at v2 hvs
    generalize varsE (setV l x) = e3 at v3 hvs
    have hoth := fun h => hoth h l
    generalize getV l m = a at g2 hoth
    generalize getV (setV l x) m = b at g3 hoth
    generalize setV l x = L at *
    obtain ⟨xn, xk, xv, xs⟩ := x
    simp only at *
    by_cases hne : m = xn
    · subst hne
      clear hoth
      obtain ⟨⟨a1, a2, a3⟩, a4⟩ := a
      obtain ⟨⟨b1, b2, b3⟩, b4⟩ := b
      by_cases h0 : e1 = 0 ∧ e2 = 0
      · obtain ⟨rfl, rfl⟩ := h0
        rcases hvs rfl rfl with rfl | ⟨rfl, h8⟩
        · refine calls_go (nt := 100) (rs := [.tmp 6]) Try.func7 rfl rfl rfl (by simp) (by intro id h; simp at h <;> omega) ?_; intro Q hQ hW
          repeat' (first
    | (with_reducible refine run_n ?_; with_reducible first | refine hK _ _ (by simp) ?_ | refine hK _ _ ?_; clear hK K)
    | (with_reducible first | refine awp_seq ?_ | refine then_n ?_ | refine then_r ?_ | refine then_e ?_ | refine awp_skip ?_ | refine awp_label ?_ | refine awp_ret ?_ | refine awp_exit ?_ | refine awp_block ?_ | refine awp_scope ?_ | refine in_n ?_ | refine in_r ?_ | refine in_e ?_ | refine in_ne (by decide) ?_ | refine ng_n ?_ | refine ng_r ?_ | refine ng_e ?_)
    | (with_reducible refine awp_regT (by kernel_rfl) ?_; intro K hK)
    | (with_reducible refine a_cond (ht := ?_) (hf := ?_) <;> intro hb <;> (try simp at hb) <;> (try contradiction) <;> (try subst hb) <;> (try omega))
    | (with_reducible first | refine a_move (hr := ?_) | refine a_assign (hr := ?_) | refine a_load (hr := ?_) | refine a_fieldAddr (hr := ?_) | refine a_bin (hr := ?_) | refine a_lenS (hr := ?_) | refine a_lenR (hr := ?_) | refine a_extract (hr := ?_) | refine a_pick (hr := ?_) | refine a_un (hr := ?_) | refine a_store (hr := ?_) | refine a_box (hr := ?_) | refine a_alloc (hr := ?_) | refine a_eqB (hr := ?_) | refine a_neB (hr := ?_) | refine a_eqS (hr := ?_) | refine a_neS (hr := ?_) | refine a_buildSlice (hr := ?_) | refine a_call0 (hcall := hlv) (hr := ?_) | refine a_callL (hcall := f1) (hr := ?_) | refine a_callL (hcall := f2) (hr := ?_) | refine a_callF (hcall := s1) (hr := ?_) | refine a_callF (hcall := g1) (hr := ?_) | refine a_callF (hcall := g2) (hr := ?_) | refine a_callF (hcall := g3) (hr := ?_) | refine a_callF (hcall := v1) (hr := ?_) | refine a_callF (hcall := v2) (hr := ?_) | refine a_callF (hcall := v3) (hr := ?_) | refine a_gT (hr := ?_) | refine a_gF (hr := ?_) | refine a_gU (hr := ?_))
    | (with_reducible refine a_gB (hT := ?_) (hF := ?_) <;> intro hb <;> (try simp at hb) <;> (try contradiction) <;> (try subst hb) <;> (try omega))
    | fail)
          all_goals ((refine hQ _ _ _ _ (by first | exact .inr rfl | exact .inl rfl) (by simp; exact .r) (by simp; exact .r) ?_))
          all_goals (exact Fin.drop (by simp; exact .r) (by simp))
        · refine calls_go (nt := 100) (rs := [.tmp 6]) Try.func7 rfl rfl rfl (by simp) (by intro id h; simp at h <;> omega) ?_; intro Q hQ hW
          repeat' (first
    | (with_reducible refine run_n ?_; with_reducible first | refine hK _ _ (by simp) ?_ | refine hK _ _ ?_; clear hK K)
    | (with_reducible first | refine awp_seq ?_ | refine then_n ?_ | refine then_r ?_ | refine then_e ?_ | refine awp_skip ?_ | refine awp_label ?_ | refine awp_ret ?_ | refine awp_exit ?_ | refine awp_block ?_ | refine awp_scope ?_ | refine in_n ?_ | refine in_r ?_ | refine in_e ?_ | refine in_ne (by decide) ?_ | refine ng_n ?_ | refine ng_r ?_ | refine ng_e ?_)
    | (with_reducible refine awp_regT (by kernel_rfl) ?_; intro K hK)
    | (with_reducible refine a_cond (ht := ?_) (hf := ?_) <;> intro hb <;> (try simp at hb) <;> (try contradiction) <;> (try subst hb) <;> (try omega))
    | (with_reducible first | refine a_move (hr := ?_) | refine a_assign (hr := ?_) | refine a_load (hr := ?_) | refine a_fieldAddr (hr := ?_) | refine a_bin (hr := ?_) | refine a_lenS (hr := ?_) | refine a_lenR (hr := ?_) | refine a_extract (hr := ?_) | refine a_pick (hr := ?_) | refine a_un (hr := ?_) | refine a_store (hr := ?_) | refine a_box (hr := ?_) | refine a_alloc (hr := ?_) | refine a_eqB (hr := ?_) | refine a_neB (hr := ?_) | refine a_eqS (hr := ?_) | refine a_neS (hr := ?_) | refine a_buildSlice (hr := ?_) | refine a_call0 (hcall := hlv) (hr := ?_) | refine a_callL (hcall := f1) (hr := ?_) | refine a_callL (hcall := f2) (hr := ?_) | refine a_callF (hcall := s1) (hr := ?_) | refine a_callF (hcall := g1) (hr := ?_) | refine a_callF (hcall := g2) (hr := ?_) | refine a_callF (hcall := g3) (hr := ?_) | refine a_callF (hcall := v1) (hr := ?_) | refine a_callF (hcall := v2) (hr := ?_) | refine a_callF (hcall := v3) (hr := ?_) | refine a_gT (hr := ?_) | refine a_gF (hr := ?_) | refine a_gU (hr := ?_))
    | (with_reducible refine a_gB (hT := ?_) (hF := ?_) <;> intro hb <;> (try simp at hb) <;> (try contradiction) <;> (try subst hb) <;> (try omega))
    | fail)
          all_goals ((refine hQ _ _ _ _ (by first | exact .inr rfl | exact .inl rfl) (by simp; exact .r) (by simp; exact .r) ?_))
          all_goals (try rw [decide_eq_true (show (8 : Int) < (L.length : Int) by omega)])
          all_goals (exact Fin.drop (by simp; exact .r) (by simp))
      · have h0' : e1 = 0 → ¬ e2 = 0 := fun a b => h0 ⟨a, b⟩
        clear hvs h0
        refine calls_go (nt := 100) (rs := [.tmp 6]) Try.func7 rfl rfl rfl (by simp) (by intro id h; simp at h <;> omega) ?_; intro Q hQ hW
        repeat' (first
    | (with_reducible refine run_n ?_; with_reducible first | refine hK _ _ (by simp) ?_ | refine hK _ _ ?_; clear hK K)
    | (with_reducible first | refine awp_seq ?_ | refine then_n ?_ | refine then_r ?_ | refine then_e ?_ | refine awp_skip ?_ | refine awp_label ?_ | refine awp_ret ?_ | refine awp_exit ?_ | refine awp_block ?_ | refine awp_scope ?_ | refine in_n ?_ | refine in_r ?_ | refine in_e ?_ | refine in_ne (by decide) ?_ | refine ng_n ?_ | refine ng_r ?_ | refine ng_e ?_)
    | (with_reducible refine awp_regT (by kernel_rfl) ?_; intro K hK)
    | (with_reducible refine a_cond (ht := ?_) (hf := ?_) <;> intro hb <;> (try simp at hb) <;> (try contradiction) <;> (try subst hb) <;> (try omega))
    | (with_reducible first | refine a_move (hr := ?_) | refine a_assign (hr := ?_) | refine a_load (hr := ?_) | refine a_fieldAddr (hr := ?_) | refine a_bin (hr := ?_) | refine a_lenS (hr := ?_) | refine a_lenR (hr := ?_) | refine a_extract (hr := ?_) | refine a_pick (hr := ?_) | refine a_un (hr := ?_) | refine a_store (hr := ?_) | refine a_box (hr := ?_) | refine a_alloc (hr := ?_) | refine a_eqB (hr := ?_) | refine a_neB (hr := ?_) | refine a_eqS (hr := ?_) | refine a_neS (hr := ?_) | refine a_buildSlice (hr := ?_) | refine a_call0 (hcall := hlv) (hr := ?_) | refine a_callL (hcall := f1) (hr := ?_) | refine a_callL (hcall := f2) (hr := ?_) | refine a_callF (hcall := s1) (hr := ?_) | refine a_callF (hcall := g1) (hr := ?_) | refine a_callF (hcall := g2) (hr := ?_) | refine a_callF (hcall := g3) (hr := ?_) | refine a_callF (hcall := v1) (hr := ?_) | refine a_callF (hcall := v2) (hr := ?_) | refine a_callF (hcall := v3) (hr := ?_) | refine a_gT (hr := ?_) | refine a_gF (hr := ?_) | refine a_gU (hr := ?_))
    | (with_reducible refine a_gB (hT := ?_) (hF := ?_) <;> intro hb <;> (try simp at hb) <;> (try contradiction) <;> (try subst hb) <;> (try omega))
    | fail)
        all_goals ((refine hQ _ _ _ _ (by first | exact .inr rfl | exact .inl rfl) (by simp; exact .r) (by simp; exact .r) ?_))
        all_goals (exact Fin.drop (by simp; exact .r) (by simp))
    · have hoth := hoth hne
      subst hoth
      obtain ⟨⟨b1, b2, b3⟩, b4⟩ := b
      by_cases h0 : e1 = 0 ∧ e2 = 0
      · obtain ⟨rfl, rfl⟩ := h0
        rcases hvs rfl rfl with rfl | ⟨rfl, h8⟩
        · refine calls_go (nt := 100) (rs := [.tmp 6]) Try.func7 rfl rfl rfl (by simp) (by intro id h; simp at h <;> omega) ?_; intro Q hQ hW
          repeat' (first
    | (with_reducible refine run_n ?_; with_reducible first | refine hK _ _ (by simp) ?_ | refine hK _ _ ?_; clear hK K)
    | (with_reducible first | refine awp_seq ?_ | refine then_n ?_ | refine then_r ?_ | refine then_e ?_ | refine awp_skip ?_ | refine awp_label ?_ | refine awp_ret ?_ | refine awp_exit ?_ | refine awp_block ?_ | refine awp_scope ?_ | refine in_n ?_ | refine in_r ?_ | refine in_e ?_ | refine in_ne (by decide) ?_ | refine ng_n ?_ | refine ng_r ?_ | refine ng_e ?_)
    | (with_reducible refine awp_regT (by kernel_rfl) ?_; intro K hK)
    | (with_reducible refine a_cond (ht := ?_) (hf := ?_) <;> intro hb <;> (try simp at hb) <;> (try contradiction) <;> (try subst hb) <;> (try omega))
    | (with_reducible first | refine a_move (hr := ?_) | refine a_assign (hr := ?_) | refine a_load (hr := ?_) | refine a_fieldAddr (hr := ?_) | refine a_bin (hr := ?_) | refine a_lenS (hr := ?_) | refine a_lenR (hr := ?_) | refine a_extract (hr := ?_) | refine a_pick (hr := ?_) | refine a_un (hr := ?_) | refine a_store (hr := ?_) | refine a_box (hr := ?_) | refine a_alloc (hr := ?_) | refine a_eqB (hr := ?_) | refine a_neB (hr := ?_) | refine a_eqS (hr := ?_) | refine a_neS (hr := ?_) | refine a_buildSlice (hr := ?_) | refine a_call0 (hcall := hlv) (hr := ?_) | refine a_callL (hcall := f1) (hr := ?_) | refine a_callL (hcall := f2) (hr := ?_) | refine a_callF (hcall := s1) (hr := ?_) | refine a_callF (hcall := g1) (hr := ?_) | refine a_callF (hcall := g2) (hr := ?_) | refine a_callF (hcall := g3) (hr := ?_) | refine a_callF (hcall := v1) (hr := ?_) | refine a_callF (hcall := v2) (hr := ?_) | refine a_callF (hcall := v3) (hr := ?_) | refine a_gT (hr := ?_) | refine a_gF (hr := ?_) | refine a_gU (hr := ?_))
    | (with_reducible refine a_gB (hT := ?_) (hF := ?_) <;> intro hb <;> (try simp at hb) <;> (try contradiction) <;> (try subst hb) <;> (try omega))
    | fail)
          all_goals ((refine hQ _ _ _ _ (by first | exact .inr rfl | exact .inl rfl) (by simp; exact .r) (by simp; exact .r) ?_))
          all_goals (exact Fin.drop (by simp; exact .r) (by simp))
        · refine calls_go (nt := 100) (rs := [.tmp 6]) Try.func7 rfl rfl rfl (by simp) (by intro id h; simp at h <;> omega) ?_; intro Q hQ hW
          repeat' (first
    | (with_reducible refine run_n ?_; with_reducible first | refine hK _ _ (by simp) ?_ | refine hK _ _ ?_; clear hK K)
    | (with_reducible first | refine awp_seq ?_ | refine then_n ?_ | refine then_r ?_ | refine then_e ?_ | refine awp_skip ?_ | refine awp_label ?_ | refine awp_ret ?_ | refine awp_exit ?_ | refine awp_block ?_ | refine awp_scope ?_ | refine in_n ?_ | refine in_r ?_ | refine in_e ?_ | refine in_ne (by decide) ?_ | refine ng_n ?_ | refine ng_r ?_ | refine ng_e ?_)
    | (with_reducible refine awp_regT (by kernel_rfl) ?_; intro K hK)
    | (with_reducible refine a_cond (ht := ?_) (hf := ?_) <;> intro hb <;> (try simp at hb) <;> (try contradiction) <;> (try subst hb) <;> (try omega))
    | (with_reducible first | refine a_move (hr := ?_) | refine a_assign (hr := ?_) | refine a_load (hr := ?_) | refine a_fieldAddr (hr := ?_) | refine a_bin (hr := ?_) | refine a_lenS (hr := ?_) | refine a_lenR (hr := ?_) | refine a_extract (hr := ?_) | refine a_pick (hr := ?_) | refine a_un (hr := ?_) | refine a_store (hr := ?_) | refine a_box (hr := ?_) | refine a_alloc (hr := ?_) | refine a_eqB (hr := ?_) | refine a_neB (hr := ?_) | refine a_eqS (hr := ?_) | refine a_neS (hr := ?_) | refine a_buildSlice (hr := ?_) | refine a_call0 (hcall := hlv) (hr := ?_) | refine a_callL (hcall := f1) (hr := ?_) | refine a_callL (hcall := f2) (hr := ?_) | refine a_callF (hcall := s1) (hr := ?_) | refine a_callF (hcall := g1) (hr := ?_) | refine a_callF (hcall := g2) (hr := ?_) | refine a_callF (hcall := g3) (hr := ?_) | refine a_callF (hcall := v1) (hr := ?_) | refine a_callF (hcall := v2) (hr := ?_) | refine a_callF (hcall := v3) (hr := ?_) | refine a_gT (hr := ?_) | refine a_gF (hr := ?_) | refine a_gU (hr := ?_))
    | (with_reducible refine a_gB (hT := ?_) (hF := ?_) <;> intro hb <;> (try simp at hb) <;> (try contradiction) <;> (try subst hb) <;> (try omega))
    | fail)
          all_goals ((refine hQ _ _ _ _ (by first | exact .inr rfl | exact .inl rfl) (by simp; exact .r) (by simp; exact .r) ?_))
          all_goals (try rw [decide_eq_true (show (8 : Int) < (L.length : Int) by omega)])
          all_goals (exact Fin.drop (by simp; exact .r) (by simp))
      · have h0' : e1 = 0 → ¬ e2 = 0 := fun a b => h0 ⟨a, b⟩
        clear hvs h0
        refine calls_go (nt := 100) (rs := [.tmp 6]) Try.func7 rfl rfl rfl (by simp) (by intro id h; simp at h <;> omega) ?_; intro Q hQ hW
        repeat' (first
    | (with_reducible refine run_n ?_; with_reducible first | refine hK _ _ (by simp) ?_ | refine hK _ _ ?_; clear hK K)
    | (with_reducible first | refine awp_seq ?_ | refine then_n ?_ | refine then_r ?_ | refine then_e ?_ | refine awp_skip ?_ | refine awp_label ?_ | refine awp_ret ?_ | refine awp_exit ?_ | refine awp_block ?_ | refine awp_scope ?_ | refine in_n ?_ | refine in_r ?_ | refine in_e ?_ | refine in_ne (by decide) ?_ | refine ng_n ?_ | refine ng_r ?_ | refine ng_e ?_)
    | (with_reducible refine awp_regT (by kernel_rfl) ?_; intro K hK)
    | (with_reducible refine a_cond (ht := ?_) (hf := ?_) <;> intro hb <;> (try simp at hb) <;> (try contradiction) <;> (try subst hb) <;> (try omega))
    | (with_reducible first | refine a_move (hr := ?_) | refine a_assign (hr := ?_) | refine a_load (hr := ?_) | refine a_fieldAddr (hr := ?_) | refine a_bin (hr := ?_) | refine a_lenS (hr := ?_) | refine a_lenR (hr := ?_) | refine a_extract (hr := ?_) | refine a_pick (hr := ?_) | refine a_un (hr := ?_) | refine a_store (hr := ?_) | refine a_box (hr := ?_) | refine a_alloc (hr := ?_) | refine a_eqB (hr := ?_) | refine a_neB (hr := ?_) | refine a_eqS (hr := ?_) | refine a_neS (hr := ?_) | refine a_buildSlice (hr := ?_) | refine a_call0 (hcall := hlv) (hr := ?_) | refine a_callL (hcall := f1) (hr := ?_) | refine a_callL (hcall := f2) (hr := ?_) | refine a_callF (hcall := s1) (hr := ?_) | refine a_callF (hcall := g1) (hr := ?_) | refine a_callF (hcall := g2) (hr := ?_) | refine a_callF (hcall := g3) (hr := ?_) | refine a_callF (hcall := v1) (hr := ?_) | refine a_callF (hcall := v2) (hr := ?_) | refine a_callF (hcall := v3) (hr := ?_) | refine a_gT (hr := ?_) | refine a_gF (hr := ?_) | refine a_gU (hr := ?_))
    | (with_reducible refine a_gB (hT := ?_) (hF := ?_) <;> intro hb <;> (try simp at hb) <;> (try contradiction) <;> (try subst hb) <;> (try omega))
    | fail)
        all_goals ((refine hQ _ _ _ _ (by first | exact .inr rfl | exact .inl rfl) (by simp; exact .r) (by simp; exact .r) ?_))
        all_goals (exact Fin.drop (by simp; exact .r) (by simp))
  · generalize fewB l = b1 at f1 hB
    generalize fewB [x] = b2 at f2 hB
    obtain ⟨xn, xk, xv, xs⟩ := x
    have hB' : b1 = true → b2 = true → ¬ m.size ≤ 100 := fun a b c => hB ⟨a, b, c⟩
    clear hB
    cases b1 with
    | false =>
      refine calls_go (nt := 100) (rs := [.tmp 6]) Try.func7 rfl rfl rfl (by simp) (by intro id h; simp at h <;> omega) ?_; intro Q hQ hW
      repeat' (first
    | (with_reducible refine run_n ?_; with_reducible first | refine hK _ _ (by simp) ?_ | refine hK _ _ ?_; clear hK K)
    | (with_reducible first | refine awp_seq ?_ | refine then_n ?_ | refine then_r ?_ | refine then_e ?_ | refine awp_skip ?_ | refine awp_label ?_ | refine awp_ret ?_ | refine awp_exit ?_ | refine awp_block ?_ | refine awp_scope ?_ | refine in_n ?_ | refine in_r ?_ | refine in_e ?_ | refine in_ne (by decide) ?_ | refine ng_n ?_ | refine ng_r ?_ | refine ng_e ?_)
    | (with_reducible refine awp_regT (by kernel_rfl) ?_; intro K hK)
    | (with_reducible refine a_cond (ht := ?_) (hf := ?_) <;> intro hb <;> (try simp at hb) <;> (try contradiction) <;> (try subst hb) <;> (try omega))
    | (with_reducible first | refine a_move (hr := ?_) | refine a_assign (hr := ?_) | refine a_load (hr := ?_) | refine a_fieldAddr (hr := ?_) | refine a_bin (hr := ?_) | refine a_lenS (hr := ?_) | refine a_lenR (hr := ?_) | refine a_extract (hr := ?_) | refine a_pick (hr := ?_) | refine a_un (hr := ?_) | refine a_store (hr := ?_) | refine a_box (hr := ?_) | refine a_alloc (hr := ?_) | refine a_eqB (hr := ?_) | refine a_neB (hr := ?_) | refine a_eqS (hr := ?_) | refine a_neS (hr := ?_) | refine a_buildSlice (hr := ?_) | refine a_call0 (hcall := hlv) (hr := ?_) | refine a_callL (hcall := f1) (hr := ?_) | refine a_callL (hcall := f2) (hr := ?_) | refine a_gT (hr := ?_) | refine a_gF (hr := ?_) | refine a_gU (hr := ?_))
    | (with_reducible refine a_gB (hT := ?_) (hF := ?_) <;> intro hb <;> (try simp at hb) <;> (try contradiction) <;> (try subst hb) <;> (try omega))
    | fail)
      all_goals ((refine hQ _ _ _ _ (by first | exact .inr rfl | exact .inl rfl) (by simp; exact .r) (by simp; exact .r) ?_))
      all_goals (exact Fin.drop (by simp; exact .r) (by simp))
    | true =>
      cases b2 with
      | false =>
        refine calls_go (nt := 100) (rs := [.tmp 6]) Try.func7 rfl rfl rfl (by simp) (by intro id h; simp at h <;> omega) ?_; intro Q hQ hW
        repeat' (first
    | (with_reducible refine run_n ?_; with_reducible first | refine hK _ _ (by simp) ?_ | refine hK _ _ ?_; clear hK K)
    | (with_reducible first | refine awp_seq ?_ | refine then_n ?_ | refine then_r ?_ | refine then_e ?_ | refine awp_skip ?_ | refine awp_label ?_ | refine awp_ret ?_ | refine awp_exit ?_ | refine awp_block ?_ | refine awp_scope ?_ | refine in_n ?_ | refine in_r ?_ | refine in_e ?_ | refine in_ne (by decide) ?_ | refine ng_n ?_ | refine ng_r ?_ | refine ng_e ?_)
    | (with_reducible refine awp_regT (by kernel_rfl) ?_; intro K hK)
    | (with_reducible refine a_cond (ht := ?_) (hf := ?_) <;> intro hb <;> (try simp at hb) <;> (try contradiction) <;> (try subst hb) <;> (try omega))
    | (with_reducible first | refine a_move (hr := ?_) | refine a_assign (hr := ?_) | refine a_load (hr := ?_) | refine a_fieldAddr (hr := ?_) | refine a_bin (hr := ?_) | refine a_lenS (hr := ?_) | refine a_lenR (hr := ?_) | refine a_extract (hr := ?_) | refine a_pick (hr := ?_) | refine a_un (hr := ?_) | refine a_store (hr := ?_) | refine a_box (hr := ?_) | refine a_alloc (hr := ?_) | refine a_eqB (hr := ?_) | refine a_neB (hr := ?_) | refine a_eqS (hr := ?_) | refine a_neS (hr := ?_) | refine a_buildSlice (hr := ?_) | refine a_call0 (hcall := hlv) (hr := ?_) | refine a_callL (hcall := f1) (hr := ?_) | refine a_callL (hcall := f2) (hr := ?_) | refine a_gT (hr := ?_) | refine a_gF (hr := ?_) | refine a_gU (hr := ?_))
    | (with_reducible refine a_gB (hT := ?_) (hF := ?_) <;> intro hb <;> (try simp at hb) <;> (try contradiction) <;> (try subst hb) <;> (try omega))
    | fail)
        all_goals ((refine hQ _ _ _ _ (by first | exact .inr rfl | exact .inl rfl) (by simp; exact .r) (by simp; exact .r) ?_))
        all_goals (exact Fin.drop (by simp; exact .r) (by simp))
      | true =>
        have h100 := hB' rfl rfl
        refine calls_go (nt := 100) (rs := [.tmp 6]) Try.func7 rfl rfl rfl (by simp) (by intro id h; simp at h <;> omega) ?_; intro Q hQ hW
        repeat' (first
    | (with_reducible refine run_n ?_; with_reducible first | refine hK _ _ (by simp) ?_ | refine hK _ _ ?_; clear hK K)
    | (with_reducible first | refine awp_seq ?_ | refine then_n ?_ | refine then_r ?_ | refine then_e ?_ | refine awp_skip ?_ | refine awp_label ?_ | refine awp_ret ?_ | refine awp_exit ?_ | refine awp_block ?_ | refine awp_scope ?_ | refine in_n ?_ | refine in_r ?_ | refine in_e ?_ | refine in_ne (by decide) ?_ | refine ng_n ?_ | refine ng_r ?_ | refine ng_e ?_)
    | (with_reducible refine awp_regT (by kernel_rfl) ?_; intro K hK)
    | (with_reducible refine a_cond (ht := ?_) (hf := ?_) <;> intro hb <;> (try simp at hb) <;> (try contradiction) <;> (try subst hb) <;> (try omega))
    | (with_reducible first | refine a_move (hr := ?_) | refine a_assign (hr := ?_) | refine a_load (hr := ?_) | refine a_fieldAddr (hr := ?_) | refine a_bin (hr := ?_) | refine a_lenS (hr := ?_) | refine a_lenR (hr := ?_) | refine a_extract (hr := ?_) | refine a_pick (hr := ?_) | refine a_un (hr := ?_) | refine a_store (hr := ?_) | refine a_box (hr := ?_) | refine a_alloc (hr := ?_) | refine a_eqB (hr := ?_) | refine a_neB (hr := ?_) | refine a_eqS (hr := ?_) | refine a_neS (hr := ?_) | refine a_buildSlice (hr := ?_) | refine a_call0 (hcall := hlv) (hr := ?_) | refine a_callL (hcall := f1) (hr := ?_) | refine a_callL (hcall := f2) (hr := ?_) | refine a_gT (hr := ?_) | refine a_gF (hr := ?_) | refine a_gU (hr := ?_))
    | (with_reducible refine a_gB (hT := ?_) (hF := ?_) <;> intro hb <;> (try simp at hb) <;> (try contradiction) <;> (try subst hb) <;> (try omega))
    | fail)
        all_goals ((refine hQ _ _ _ _ (by first | exact .inr rfl | exact .inl rfl) (by simp; exact .r) (by simp; exact .r) ?_))
        all_goals (exact Fin.drop (by simp; exact .r) (by simp))
theorem row_ValueSets (l : List (ByteArray × Int × Int × ByteArray)) (x : ByteArray × Int × Int × ByteArray) (m : ByteArray) (hl : l.length < 9223372036854775808) (hm : m.size < 9223372036854775808) : CallD Try.prog 7 [.sl 4 (l.map fun x => varAV (vof x)), varAV (vof x), .raw (.string m)] noHeap (.raw (.bool true)) noHeap := by
  have := law_ValueSets (l.map vof) (vof x) m (by simpa using hl) hm
  rwa [map_vof] at this
end Go.Proofs.Ytekiaempcgjejaa.Asl
