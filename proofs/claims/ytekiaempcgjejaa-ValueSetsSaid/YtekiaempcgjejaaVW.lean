/- Variables: Set. -/
import Derived.Test.YtekiaempcgjejaaVV
namespace Go.Proofs.Ytekiaempcgjejaa.Asl
open Go Go.RowKit
set_option linter.unusedVariables false
set_option linter.unusedSimpArgs false
set_option maxRecDepth 100000
set_option maxHeartbeats 4000000
def replV (x : VarV) : List VarV → List VarV
  | [] => []
  | y :: l => if y.n = x.n then x :: l else y :: replV x l
def insV (x : VarV) : List VarV → List VarV
  | [] => [x]
  | y :: l => if sless y.n x.n then y :: insV x l else x :: y :: l
def hasV (m : ByteArray) : List VarV → Bool
  | [] => false
  | y :: l => if y.n = m then true else hasV m l
def setV (l : List VarV) (x : VarV) : List VarV := if hasV x.n l = true then replV x l else insV x l
theorem replV_len (x : VarV) : ∀ l, (replV x l).length = l.length
  | [] => rfl
  | y :: l => by simp only [replV]; split <;> simp [replV_len x l]
theorem insV_len (x : VarV) : ∀ l, (insV x l).length = l.length + 1
  | [] => rfl
  | y :: l => by simp only [insV]; split <;> simp [insV_len x l]
theorem setV_len (x : VarV) (l : List VarV) : (setV l x).length ≤ l.length + 1 := by
  unfold setV; split
  · rw [replV_len]; omega
  · rw [insV_len]; exact Nat.le_refl _
/-- The place of the first that is not ahead. -/
def placeV (x : VarV) : List VarV → Nat
  | [] => 0
  | y :: l => if sless y.n x.n then placeV x l + 1 else 0
theorem placeV_le (x : VarV) : ∀ l, placeV x l ≤ l.length
  | [] => by simp [placeV]
  | y :: l => by simp only [placeV]; split <;> simp [placeV_le x l]
theorem insV_place (x : VarV) : ∀ l, insV x l = l.take (placeV x l) ++ x :: l.drop (placeV x l)
  | [] => rfl
  | y :: l => by simp only [insV, placeV]; split <;> simp [insV_place x l]
theorem replV_set (x : VarV) : ∀ (l : List VarV) (i : Nat) (y : VarV), l[i]? = some y → hasV x.n (l.take i) = false → y.n = x.n → replV x l = l.set i x
  | [], i, y, h, _, _ => by simp at h
  | z :: l, 0, y, h, _, e => by
    simp at h; subst h
    simp [replV, e]
  | z :: l, i + 1, y, h, hf, e => by
    simp only [List.take_succ_cons, hasV] at hf
    split at hf
    · cases hf
    · rename_i hne
      simp only [replV, if_neg hne, List.set_cons_succ]
      rw [replV_set x l i y (by simpa using h) hf e]
theorem hasV_app (m : ByteArray) : ∀ a b, hasV m (a ++ b) = (hasV m a || hasV m b)
  | [], b => by simp [hasV]
  | y :: a, b => by simp only [List.cons_append, hasV]; split <;> simp [hasV_app m a b]
theorem placeV_at (x : VarV) : ∀ (l : List VarV) (i : Nat), i < placeV x l → ∃ y, l[i]? = some y ∧ sless y.n x.n = true
  | [], i, h => by simp [placeV] at h
  | y :: l, 0, h => by
    simp only [placeV] at h
    split at h
    · rename_i h1; exact ⟨y, rfl, h1⟩
    · omega
  | y :: l, i + 1, h => by
    simp only [placeV] at h
    split at h
    · obtain ⟨z, h1, h2⟩ := placeV_at x l i (by omega)
      exact ⟨z, by simpa using h1, h2⟩
    · omega
theorem placeV_stop (x : VarV) : ∀ (l : List VarV), placeV x l < l.length → ∃ y, l[placeV x l]? = some y ∧ sless y.n x.n = false
  | [], h => by simp [placeV] at h
  | y :: l, h => by
    simp only [placeV] at h ⊢
    split
    · rename_i h1
      rw [if_pos h1] at h
      obtain ⟨z, h2, h3⟩ := placeV_stop x l (by simpa using h)
      exact ⟨z, by simpa using h2, h3⟩
    · rename_i h1
      exact ⟨y, rfl, by simpa using h1⟩
theorem set_app {α : Type} (a b : List α) (x y : α) : (a ++ y :: b).set a.length x = a ++ x :: b := by
  rw [List.set_append_right _ _ (Nat.le_refl _)]; simp
attribute [local simp] noids_app noids_take noids_drop noids_set deeps_of rows_of withins_of rens_of in
theorem c_Set (l : List VarV) (x : VarV) (hl : l.length ≤ 1000) : CallD Try.prog 20 [.sl 4 (l.map varAV), varAV x] noHeap (.sl 4 ((setV l x).map varAV)) noHeap := by
  obtain ⟨xn, xk, xv, xs⟩ := x
  refine calls_go (nt := 69) (rs := [.tmp 4]) Try.func20 rfl rfl rfl (by simp) (by intro id h; simp at h <;> omega) ?_; intro Q hQ hW
  repeat' (first
    | (with_reducible refine run_n ?_; with_reducible first | refine hK _ _ (by simp) ?_ | refine hK _ _ ?_; clear hK K)
    | (with_reducible first | refine awp_seq ?_ | refine then_n ?_ | refine then_r ?_ | refine then_e ?_ | refine awp_skip ?_ | refine awp_label ?_ | refine awp_ret ?_ | refine awp_exit ?_ | refine awp_block ?_ | refine awp_scope ?_ | refine in_n ?_ | refine in_r ?_ | refine in_e ?_ | refine in_ne (by decide) ?_ | refine ng_n ?_ | refine ng_r ?_ | refine ng_e ?_)
    | (with_reducible refine awp_regT (by kernel_rfl) ?_; intro K hK)
    | (with_reducible refine awp_regAM (id := 6) [] mixed (by kernel_rfl) (by kernel_rfl) ?_; intro K hK)
    | (with_reducible refine awp_regAM (id := 11) [] mixed (by kernel_rfl) (by kernel_rfl) ?_; intro K hK)
    | (with_reducible refine awp_regAM (id := 14) [] mixed (by kernel_rfl) (by kernel_rfl) ?_; intro K hK)
    | (with_reducible refine a_cond (ht := ?_) (hf := ?_) <;> intro hb <;> (try simp at hb) <;> (try contradiction) <;> (try subst hb) <;> (try omega))
    | (with_reducible first | refine a_move (hr := ?_) | refine a_assign (hr := ?_) | refine a_load (hr := ?_) | refine a_fieldAddr (hr := ?_) | refine a_bin (hr := ?_) | refine a_lenS (hr := ?_) | refine a_lenR (hr := ?_) | refine a_pick (hr := ?_) | refine a_store (hr := ?_) | refine a_box (hr := ?_) | refine a_eqB (hr := ?_) | refine a_idxArr (hr := ?_) | refine a_sliceArr (hr := ?_) | refine a_makeSlice (hr := ?_) | refine a_eqS (hr := ?_) | refine a_sliceS (hr := ?_) | refine a_sliceR (hr := ?_) | refine a_indexAddr (hr := ?_) | refine a_buildSlice (hr := ?_) | refine a_append (hr := ?_) | refine a_append0 (hr := ?_) | refine a_copy (hr := ?_) | refine a_appendX (hr := ?_) | refine a_gT (hr := ?_) | refine a_gF (hr := ?_) | refine a_gU (hr := ?_))
    | (with_reducible refine a_gB (hT := ?_) (hF := ?_) <;> intro hb <;> (try simp at hb) <;> (try contradiction) <;> (try subst hb) <;> (try omega))
    | fail)
  refine awp_inv (α := Nat) (fun i => [(3, .ptr 3 0), (5, .ow 13 4 0 l.length), (18, .raw (.int .i64 l.length)), (19, .raw (.int .i64 i))]) (fun _ => hpL [(3, .box (varAV ⟨xn, xk, xv, xs⟩)), (13, .arr 4 (l.map varAV))]) (fun i => i ≤ l.length ∧ hasV xn (l.take i) = false) (fun i => l.length - i) 0 ⟨by simp, by simp [hasV]⟩ (weak_o (by repeat' (first | refine sub_ohp (by first | (simp; done) | (intro hne; simp at hne; simp [hne])) (by simp) ?_ | exact sub_hpL (by simp))) (by simp) (by simp <;> omega)) ?_
  rintro i ⟨g1, g2⟩
  rcases Nat.lt_or_ge i l.length with hlt | hge
  · have hx := List.getElem?_eq_getElem hlt
    have hd := List.drop_eq_getElem_cons hlt
    have ht := List.take_succ_eq_append_getElem hlt
    generalize l[i] = y at hx hd ht
    obtain ⟨yn, yk, yv, ys⟩ := y
    by_cases h1 : yn = xn
    · subst h1
      have hr := replV_set ⟨yn, xk, xv, xs⟩ l i _ hx g2 rfl
      have hh : hasV yn l = true := by
        rw [← List.take_append_drop i l, hd, hasV_app]; simp [hasV]
      have hs : setV l ⟨yn, xk, xv, xs⟩ = l.set i ⟨yn, xk, xv, xs⟩ := by rw [setV, if_pos hh, hr]
      rw [hs] at hQ
      repeat' (first
    | (with_reducible refine run_n ?_; with_reducible first | refine hK _ _ (by simp) ?_ | refine hK _ _ ?_; clear hK K)
    | (with_reducible first | refine awp_seq ?_ | refine then_n ?_ | refine then_r ?_ | refine then_e ?_ | refine awp_skip ?_ | refine awp_label ?_ | refine awp_ret ?_ | refine awp_exit ?_ | refine awp_block ?_ | refine awp_scope ?_ | refine in_n ?_ | refine in_r ?_ | refine in_e ?_ | refine in_ne (by decide) ?_ | refine ng_n ?_ | refine ng_r ?_ | refine ng_e ?_)
    | (with_reducible refine awp_regT (by kernel_rfl) ?_; intro K hK)
    | (with_reducible refine awp_regAM (id := 6) [] mixed (by kernel_rfl) (by kernel_rfl) ?_; intro K hK)
    | (with_reducible refine awp_regAM (id := 11) [] mixed (by kernel_rfl) (by kernel_rfl) ?_; intro K hK)
    | (with_reducible refine awp_regAM (id := 14) [] mixed (by kernel_rfl) (by kernel_rfl) ?_; intro K hK)
    | (with_reducible refine a_cond (ht := ?_) (hf := ?_) <;> intro hb <;> (try simp at hb) <;> (try contradiction) <;> (try subst hb) <;> (try omega))
    | (with_reducible first | refine a_move (hr := ?_) | refine a_assign (hr := ?_) | refine a_load (hr := ?_) | refine a_fieldAddr (hr := ?_) | refine a_bin (hr := ?_) | refine a_lenS (hr := ?_) | refine a_lenR (hr := ?_) | refine a_pick (hr := ?_) | refine a_store (hr := ?_) | refine a_box (hr := ?_) | refine a_eqB (hr := ?_) | refine a_idxArr (hr := ?_) | refine a_sliceArr (hr := ?_) | refine a_makeSlice (hr := ?_) | refine a_eqS (hr := ?_) | refine a_sliceS (hr := ?_) | refine a_sliceR (hr := ?_) | refine a_indexAddr (hr := ?_) | refine a_buildSlice (hr := ?_) | refine a_append (hr := ?_) | refine a_append0 (hr := ?_) | refine a_copy (hr := ?_) | refine a_appendX (hr := ?_) | refine a_gT (hr := ?_) | refine a_gF (hr := ?_) | refine a_gU (hr := ?_))
    | (with_reducible refine a_gB (hT := ?_) (hF := ?_) <;> intro hb <;> (try simp at hb) <;> (try contradiction) <;> (try subst hb) <;> (try omega))
    | fail)
      (refine hQ _ _ _ _ (by first | exact .inr rfl | exact .inl rfl) (by simp; exact .r) (by simp; exact .r) ?_)
      show Fin _ _ _ (.sl 4 ((l.set i ⟨yn, xk, xv, xs⟩).map varAV))
      exact Fin.frzR (by simp; exact .r) (by simp [List.take_of_length_le]; exact .r) (by simp; exact .r) (by simp)
    · have g3 : hasV xn (l.take (i + 1)) = false := by
        rw [ht, hasV_app, g2]; simp [hasV, h1]
      repeat' (first
    | (with_reducible refine run_n ?_; with_reducible first | refine hK _ _ (by simp) ?_ | refine hK _ _ ?_; clear hK K)
    | (with_reducible first | refine awp_seq ?_ | refine then_n ?_ | refine then_r ?_ | refine then_e ?_ | refine awp_skip ?_ | refine awp_label ?_ | refine awp_ret ?_ | refine awp_exit ?_ | refine awp_block ?_ | refine awp_scope ?_ | refine in_n ?_ | refine in_r ?_ | refine in_e ?_ | refine in_ne (by decide) ?_ | refine ng_n ?_ | refine ng_r ?_ | refine ng_e ?_)
    | (with_reducible refine awp_regT (by kernel_rfl) ?_; intro K hK)
    | (with_reducible refine awp_regAM (id := 6) [] mixed (by kernel_rfl) (by kernel_rfl) ?_; intro K hK)
    | (with_reducible refine awp_regAM (id := 11) [] mixed (by kernel_rfl) (by kernel_rfl) ?_; intro K hK)
    | (with_reducible refine awp_regAM (id := 14) [] mixed (by kernel_rfl) (by kernel_rfl) ?_; intro K hK)
    | (with_reducible refine a_cond (ht := ?_) (hf := ?_) <;> intro hb <;> (try simp at hb) <;> (try contradiction) <;> (try subst hb) <;> (try omega))
    | (with_reducible first | refine a_move (hr := ?_) | refine a_assign (hr := ?_) | refine a_load (hr := ?_) | refine a_fieldAddr (hr := ?_) | refine a_bin (hr := ?_) | refine a_lenS (hr := ?_) | refine a_lenR (hr := ?_) | refine a_pick (hr := ?_) | refine a_store (hr := ?_) | refine a_box (hr := ?_) | refine a_eqB (hr := ?_) | refine a_idxArr (hr := ?_) | refine a_sliceArr (hr := ?_) | refine a_makeSlice (hr := ?_) | refine a_eqS (hr := ?_) | refine a_sliceS (hr := ?_) | refine a_sliceR (hr := ?_) | refine a_indexAddr (hr := ?_) | refine a_buildSlice (hr := ?_) | refine a_append (hr := ?_) | refine a_append0 (hr := ?_) | refine a_copy (hr := ?_) | refine a_appendX (hr := ?_) | refine a_gT (hr := ?_) | refine a_gF (hr := ?_) | refine a_gU (hr := ?_))
    | (with_reducible refine a_gB (hT := ?_) (hF := ?_) <;> intro hb <;> (try simp at hb) <;> (try contradiction) <;> (try subst hb) <;> (try omega))
    | fail)
      exact ⟨i + 1, by omega, ⟨by omega, g3⟩, weak_o (by repeat' (first | refine sub_ohp (by first | (simp; done) | (intro hne; simp at hne; simp [hne])) (by simp) ?_ | exact sub_hpL (by simp))) (by simp) (by simp <;> omega)⟩
  · obtain rfl : i = l.length := by omega
    rw [List.take_length] at g2
    have hs : setV l ⟨xn, xk, xv, xs⟩ = insV ⟨xn, xk, xv, xs⟩ l := by rw [setV, if_neg (by simp [g2])]
    have hp := insV_place ⟨xn, xk, xv, xs⟩ l
    rw [← hs] at hp
    have hpl := placeV_le ⟨xn, xk, xv, xs⟩ l
    rw [hp] at hQ
    repeat' (first
    | (with_reducible refine run_n ?_; with_reducible first | refine hK _ _ (by simp) ?_ | refine hK _ _ ?_; clear hK K)
    | (with_reducible first | refine awp_seq ?_ | refine then_n ?_ | refine then_r ?_ | refine then_e ?_ | refine awp_skip ?_ | refine awp_label ?_ | refine awp_ret ?_ | refine awp_exit ?_ | refine awp_block ?_ | refine awp_scope ?_ | refine in_n ?_ | refine in_r ?_ | refine in_e ?_ | refine in_ne (by decide) ?_ | refine ng_n ?_ | refine ng_r ?_ | refine ng_e ?_)
    | (with_reducible refine awp_regT (by kernel_rfl) ?_; intro K hK)
    | (with_reducible refine awp_regAM (id := 6) [] mixed (by kernel_rfl) (by kernel_rfl) ?_; intro K hK)
    | (with_reducible refine awp_regAM (id := 11) [] mixed (by kernel_rfl) (by kernel_rfl) ?_; intro K hK)
    | (with_reducible refine awp_regAM (id := 14) [] mixed (by kernel_rfl) (by kernel_rfl) ?_; intro K hK)
    | (with_reducible refine a_cond (ht := ?_) (hf := ?_) <;> intro hb <;> (try simp at hb) <;> (try contradiction) <;> (try subst hb) <;> (try omega))
    | (with_reducible first | refine a_move (hr := ?_) | refine a_assign (hr := ?_) | refine a_load (hr := ?_) | refine a_fieldAddr (hr := ?_) | refine a_bin (hr := ?_) | refine a_lenS (hr := ?_) | refine a_lenR (hr := ?_) | refine a_pick (hr := ?_) | refine a_store (hr := ?_) | refine a_box (hr := ?_) | refine a_eqB (hr := ?_) | refine a_idxArr (hr := ?_) | refine a_sliceArr (hr := ?_) | refine a_makeSlice (hr := ?_) | refine a_eqS (hr := ?_) | refine a_sliceS (hr := ?_) | refine a_sliceR (hr := ?_) | refine a_indexAddr (hr := ?_) | refine a_buildSlice (hr := ?_) | refine a_append (hr := ?_) | refine a_append0 (hr := ?_) | refine a_copy (hr := ?_) | refine a_appendX (hr := ?_) | refine a_gT (hr := ?_) | refine a_gF (hr := ?_) | refine a_gU (hr := ?_))
    | (with_reducible refine a_gB (hT := ?_) (hF := ?_) <;> intro hb <;> (try simp at hb) <;> (try contradiction) <;> (try subst hb) <;> (try omega))
    | fail)
    refine awp_inv (α := Nat) (fun i => [(3, .ptr 3 0), (5, .ow 13 4 0 l.length), (7, .raw (.int .i64 i))]) (fun _ => hpL [(3, .box (varAV ⟨xn, xk, xv, xs⟩)), (13, .arr 4 (l.map varAV))]) (fun i => i ≤ placeV ⟨xn, xk, xv, xs⟩ l) (fun i => l.length - i) 0 (by simp) (weak_o (by repeat' (first | refine sub_ohp (by first | (simp; done) | (intro hne; simp at hne; simp [hne])) (by simp) ?_ | exact sub_hpL (by simp))) (by simp) (by simp <;> omega)) ?_
    intro i g1
    rcases Nat.lt_or_ge i (placeV ⟨xn, xk, xv, xs⟩ l) with hlt | hge
    · have hpa := placeV_at ⟨xn, xk, xv, xs⟩ l i hlt
      obtain ⟨y, hx, hss⟩ := hpa
      obtain ⟨yn, yk, yv, ys⟩ := y
      have hlt2 := (List.getElem?_eq_some_iff.1 hx).1
      simp only at hss
      repeat' (first
    | (with_reducible refine run_n ?_; with_reducible first | refine hK _ _ (by simp) ?_ | refine hK _ _ ?_; clear hK K)
    | (with_reducible first | refine awp_seq ?_ | refine then_n ?_ | refine then_r ?_ | refine then_e ?_ | refine awp_skip ?_ | refine awp_label ?_ | refine awp_ret ?_ | refine awp_exit ?_ | refine awp_block ?_ | refine awp_scope ?_ | refine in_n ?_ | refine in_r ?_ | refine in_e ?_ | refine in_ne (by decide) ?_ | refine ng_n ?_ | refine ng_r ?_ | refine ng_e ?_)
    | (with_reducible refine awp_regT (by kernel_rfl) ?_; intro K hK)
    | (with_reducible refine awp_regAM (id := 6) [] mixed (by kernel_rfl) (by kernel_rfl) ?_; intro K hK)
    | (with_reducible refine awp_regAM (id := 11) [] mixed (by kernel_rfl) (by kernel_rfl) ?_; intro K hK)
    | (with_reducible refine awp_regAM (id := 14) [] mixed (by kernel_rfl) (by kernel_rfl) ?_; intro K hK)
    | (with_reducible refine a_cond (ht := ?_) (hf := ?_) <;> intro hb <;> (try simp at hb) <;> (try contradiction) <;> (try subst hb) <;> (try omega))
    | (with_reducible first | refine a_move (hr := ?_) | refine a_assign (hr := ?_) | refine a_load (hr := ?_) | refine a_fieldAddr (hr := ?_) | refine a_bin (hr := ?_) | refine a_lenS (hr := ?_) | refine a_lenR (hr := ?_) | refine a_pick (hr := ?_) | refine a_store (hr := ?_) | refine a_box (hr := ?_) | refine a_eqB (hr := ?_) | refine a_idxArr (hr := ?_) | refine a_sliceArr (hr := ?_) | refine a_makeSlice (hr := ?_) | refine a_eqS (hr := ?_) | refine a_sliceS (hr := ?_) | refine a_sliceR (hr := ?_) | refine a_indexAddr (hr := ?_) | refine a_buildSlice (hr := ?_) | refine a_append (hr := ?_) | refine a_append0 (hr := ?_) | refine a_copy (hr := ?_) | refine a_appendX (hr := ?_) | refine a_gT (hr := ?_) | refine a_gF (hr := ?_) | refine a_gU (hr := ?_))
    | (with_reducible refine a_gB (hT := ?_) (hF := ?_) <;> intro hb <;> (try simp at hb) <;> (try contradiction) <;> (try subst hb) <;> (try omega))
    | fail)
      exact ⟨i + 1, by omega, by omega, weak_o (by repeat' (first | refine sub_ohp (by first | (simp; done) | (intro hne; simp at hne; simp [hne])) (by simp) ?_ | exact sub_hpL (by simp))) (by simp) (by simp <;> omega)⟩
    · have e : i = placeV ⟨xn, xk, xv, xs⟩ l := by omega
      rw [← e] at hQ hpl
      clear hp
      rcases Nat.lt_or_ge i l.length with hlt | hge2
      · obtain ⟨y, hx, hss⟩ := placeV_stop ⟨xn, xk, xv, xs⟩ l (by omega)
        rw [← e] at hx
        obtain ⟨yn, yk, yv, ys⟩ := y
        simp only at hss
        clear e g1 hge hs g2
        obtain ⟨L, hL⟩ : ∃ L, L = l.take (i + 1) ++ l.drop i := ⟨_, rfl⟩
        have hset : L.set i ⟨xn, xk, xv, xs⟩ = l.take i ++ (⟨xn, xk, xv, xs⟩ : VarV) :: l.drop i := by
          rw [hL, List.take_succ_eq_append_getElem hlt, List.append_assoc]
          have h1 : (l.take i).length = i := by rw [List.length_take]; omega
          have := set_app (l.take i) (l.drop i) (⟨xn, xk, xv, xs⟩ : VarV) l[i]
          rw [h1] at this; exact this
        have hat : ∃ y, L[i]? = some y := by
          refine ⟨_, List.getElem?_eq_getElem (by rw [hL, List.length_append, List.length_take, List.length_drop]; omega)⟩
        have hlen : L.length = l.length + 1 := by rw [hL, List.length_append, List.length_take, List.length_drop]; omega
        obtain ⟨z, hx2⟩ := hat
        obtain ⟨zn, zk, zv, zs⟩ := z
        repeat' (first
    | (with_reducible refine run_n ?_; with_reducible first | refine hK _ _ (by simp) ?_ | refine hK _ _ ?_; clear hK K)
    | (with_reducible first | refine awp_seq ?_ | refine then_n ?_ | refine then_r ?_ | refine then_e ?_ | refine awp_skip ?_ | refine awp_label ?_ | refine awp_ret ?_ | refine awp_exit ?_ | refine awp_block ?_ | refine awp_scope ?_ | refine in_n ?_ | refine in_r ?_ | refine in_e ?_ | refine in_ne (by decide) ?_ | refine ng_n ?_ | refine ng_r ?_ | refine ng_e ?_)
    | (with_reducible refine awp_regT (by kernel_rfl) ?_; intro K hK)
    | (with_reducible refine awp_regAM (id := 6) [] mixed (by kernel_rfl) (by kernel_rfl) ?_; intro K hK)
    | (with_reducible refine awp_regAM (id := 11) [] mixed (by kernel_rfl) (by kernel_rfl) ?_; intro K hK)
    | (with_reducible refine awp_regAM (id := 14) [] mixed (by kernel_rfl) (by kernel_rfl) ?_; intro K hK)
    | (with_reducible refine a_cond (ht := ?_) (hf := ?_) <;> intro hb <;> (try simp at hb) <;> (try contradiction) <;> (try subst hb) <;> (try omega))
    | (with_reducible first | refine a_move (hr := ?_) | refine a_assign (hr := ?_) | refine a_load (hr := ?_) | refine a_fieldAddr (hr := ?_) | refine a_bin (hr := ?_) | refine a_lenS (hr := ?_) | refine a_lenR (hr := ?_) | refine a_pick (hr := ?_) | refine a_store (hr := ?_) | refine a_box (hr := ?_) | refine a_eqB (hr := ?_) | refine a_idxArr (hr := ?_) | refine a_sliceArr (hr := ?_) | refine a_makeSlice (hr := ?_) | refine a_eqS (hr := ?_) | refine a_sliceS (hr := ?_) | refine a_sliceR (hr := ?_) | refine a_indexAddr (hr := ?_) | refine a_buildSlice (hr := ?_) | refine a_append (hr := ?_) | refine a_append0 (hr := ?_) | refine a_copy (hr := ?_) | refine a_appendX (hr := ?_) | refine a_gT (hr := ?_) | refine a_gF (hr := ?_) | refine a_gU (hr := ?_))
    | (with_reducible refine a_gB (hT := ?_) (hF := ?_) <;> intro hb <;> (try simp at hb) <;> (try contradiction) <;> (try subst hb) <;> (try omega))
    | fail)
        refine w_copy (ys := (l.drop i).map varAV ++ [varAV ⟨xn, xk, xv, xs⟩]) (m := l.length - i) (zs := L.map varAV) (by simp; exact .r) (by simp; exact .r) (by simp; exact .r) (by simp; exact .r) ?_ (by simp; omega) ?_ ?_ ?_
        · have e1 : (l.length + 1 - i) = ((l.drop i).map varAV ++ [varAV ⟨xn, xk, xv, xs⟩]).length := by simp; omega
          have e2 : i - l.length = 0 := by omega
          simp [rowOf, List.take_of_length_le, List.drop_append, e2]
          rw [if_pos (by omega)]
          exact congrArg some (List.take_of_length_le (by simp; omega))
        · show min _ _ = _
          simp <;> omega
        · have e2 : i + 1 - l.length = 0 := by omega
          show _ = _
          simp [hL, List.take_of_length_le, List.take_append, e2]
          omega
        rw [← hset] at hQ
        repeat' (first
    | (with_reducible refine run_n ?_; with_reducible first | refine hK _ _ (by simp) ?_ | refine hK _ _ ?_; clear hK K)
    | (with_reducible first | refine awp_seq ?_ | refine then_n ?_ | refine then_r ?_ | refine then_e ?_ | refine awp_skip ?_ | refine awp_label ?_ | refine awp_ret ?_ | refine awp_exit ?_ | refine awp_block ?_ | refine awp_scope ?_ | refine in_n ?_ | refine in_r ?_ | refine in_e ?_ | refine in_ne (by decide) ?_ | refine ng_n ?_ | refine ng_r ?_ | refine ng_e ?_)
    | (with_reducible refine awp_regT (by kernel_rfl) ?_; intro K hK)
    | (with_reducible refine awp_regAM (id := 6) [] mixed (by kernel_rfl) (by kernel_rfl) ?_; intro K hK)
    | (with_reducible refine awp_regAM (id := 11) [] mixed (by kernel_rfl) (by kernel_rfl) ?_; intro K hK)
    | (with_reducible refine awp_regAM (id := 14) [] mixed (by kernel_rfl) (by kernel_rfl) ?_; intro K hK)
    | (with_reducible refine a_cond (ht := ?_) (hf := ?_) <;> intro hb <;> (try simp at hb) <;> (try contradiction) <;> (try subst hb) <;> (try omega))
    | (with_reducible first | refine a_move (hr := ?_) | refine a_assign (hr := ?_) | refine a_load (hr := ?_) | refine a_fieldAddr (hr := ?_) | refine a_bin (hr := ?_) | refine a_lenS (hr := ?_) | refine a_lenR (hr := ?_) | refine a_pick (hr := ?_) | refine a_store (hr := ?_) | refine a_box (hr := ?_) | refine a_eqB (hr := ?_) | refine a_idxArr (hr := ?_) | refine a_sliceArr (hr := ?_) | refine a_makeSlice (hr := ?_) | refine a_eqS (hr := ?_) | refine a_sliceS (hr := ?_) | refine a_sliceR (hr := ?_) | refine a_indexAddr (hr := ?_) | refine a_buildSlice (hr := ?_) | refine a_append (hr := ?_) | refine a_append0 (hr := ?_) | refine a_copy (hr := ?_) | refine a_appendX (hr := ?_) | refine a_gT (hr := ?_) | refine a_gF (hr := ?_) | refine a_gU (hr := ?_))
    | (with_reducible refine a_gB (hT := ?_) (hF := ?_) <;> intro hb <;> (try simp at hb) <;> (try contradiction) <;> (try subst hb) <;> (try omega))
    | fail)
        (refine hQ _ _ _ _ (by first | exact .inr rfl | exact .inl rfl) (by simp; exact .r) (by simp; exact .r) ?_)
        show Fin _ _ _ (.sl 4 ((L.set i ⟨xn, xk, xv, xs⟩).map varAV))
        exact Fin.frzR (by simp; exact .r) (by simp [List.take_of_length_le, hlen]; exact .r) (by simp; exact .r) (by simp)
      · have e2 : i = l.length := by omega
        clear e g1 hge hs g2
        subst e2
        rw [List.take_length, List.drop_length] at hQ
        have hd0 : ∀ X, List.drop (l.length + 1) (l.map varAV ++ [X]) = [] := fun X => List.drop_of_length_le (by simp)
        repeat' (first
    | (with_reducible refine run_n ?_; with_reducible first | refine hK _ _ (by simp) ?_ | refine hK _ _ ?_; clear hK K)
    | (with_reducible first | refine awp_seq ?_ | refine then_n ?_ | refine then_r ?_ | refine then_e ?_ | refine awp_skip ?_ | refine awp_label ?_ | refine awp_ret ?_ | refine awp_exit ?_ | refine awp_block ?_ | refine awp_scope ?_ | refine in_n ?_ | refine in_r ?_ | refine in_e ?_ | refine in_ne (by decide) ?_ | refine ng_n ?_ | refine ng_r ?_ | refine ng_e ?_)
    | (with_reducible refine awp_regT (by kernel_rfl) ?_; intro K hK)
    | (with_reducible refine awp_regAM (id := 6) [] mixed (by kernel_rfl) (by kernel_rfl) ?_; intro K hK)
    | (with_reducible refine awp_regAM (id := 11) [] mixed (by kernel_rfl) (by kernel_rfl) ?_; intro K hK)
    | (with_reducible refine awp_regAM (id := 14) [] mixed (by kernel_rfl) (by kernel_rfl) ?_; intro K hK)
    | (with_reducible refine a_cond (ht := ?_) (hf := ?_) <;> intro hb <;> (try simp at hb) <;> (try contradiction) <;> (try subst hb) <;> (try omega))
    | (with_reducible first | refine a_move (hr := ?_) | refine a_assign (hr := ?_) | refine a_load (hr := ?_) | refine a_fieldAddr (hr := ?_) | refine a_bin (hr := ?_) | refine a_lenS (hr := ?_) | refine a_lenR (hr := ?_) | refine a_pick (hr := ?_) | refine a_store (hr := ?_) | refine a_box (hr := ?_) | refine a_eqB (hr := ?_) | refine a_idxArr (hr := ?_) | refine a_sliceArr (hr := ?_) | refine a_makeSlice (hr := ?_) | refine a_eqS (hr := ?_) | refine a_sliceS (hr := ?_) | refine a_sliceR (hr := ?_) | refine a_indexAddr (hr := ?_) | refine a_buildSlice (hr := ?_) | refine a_append (hr := ?_) | refine a_append0 (hr := ?_) | refine a_copy (hr := ?_) | refine a_appendX (hr := ?_) | refine a_gT (hr := ?_) | refine a_gF (hr := ?_) | refine a_gU (hr := ?_))
    | (with_reducible refine a_gB (hT := ?_) (hF := ?_) <;> intro hb <;> (try simp at hb) <;> (try contradiction) <;> (try subst hb) <;> (try omega))
    | fail)
        (refine hQ _ _ _ _ (by first | exact .inr rfl | exact .inl rfl) (by simp; exact .r) (by simp; exact .r) ?_)
        simp only [hd0]
        show Fin _ _ _ (.sl 4 ((l ++ [(⟨xn, xk, xv, xs⟩ : VarV)]).map varAV))
        exact Fin.frzR (by simp; exact .r) (by simp [List.take_of_length_le]; exact .r) (by simp; exact .r) (by simp)
end Go.Proofs.Ytekiaempcgjejaa.Asl
