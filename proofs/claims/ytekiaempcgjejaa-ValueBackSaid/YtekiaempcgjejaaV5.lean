/- ValueBack. -/
import Derived.Test.YtekiaempcgjejaaV4
namespace Go.Proofs.Ytekiaempcgjejaa.Asl
open Go Go.RowKit
set_option linter.unusedVariables false
set_option linter.unusedSimpArgs false
set_option maxRecDepth 100000
set_option maxHeartbeats 4000000
attribute [local simp] len_bytes
theorem dec_encV {n : Int} (h0 : 0 ≤ n) (h1 : n < 18446744073709551616) (r : List Int) : dec (enc 9 n ++ r) 0 0 = (n, ((enc 9 n).length : Int), 0) := by
  have := dec_enc 9 0 n 0 r rfl h0 (fun h => absurd h (by decide)) (by simpa using h1)
  simpa using this
theorem dI_enc {n : Int} (h0 : -9223372036854775808 ≤ n) (h1 : n < 9223372036854775808) (r : List Int) : dI (enc 9 (zz n) ++ r) = (n, (enc 9 (zz n)).length, 0) := by
  have hz := zz_range h0 h1
  have hm : ¬ 18446744073709551615 < zz n := by omega
  simp [dI, dU, dec_encV hz.1 hz.2, hm, unz_zz]
theorem dT_enc {s : ByteArray} {most : Int} (h0 : (s.size : Int) ≤ most) (hs : s.size ≤ 140737488351232) (r : List Int) : dT (enc 9 s.size ++ bytesOf s ++ r) most = (bytesOf s, (enc 9 s.size).length + s.size, 0) := by
  have hd := dec_encV (n := s.size) (by omega) (by omega) (bytesOf s ++ r)
  rw [← List.append_assoc] at hd
  have hl := len_bytes s
  unfold dT
  rw [hd]
  rw [if_neg (by simp), if_neg (by simp; omega), if_neg (by simp [hl]; omega)]
  simp only [Int.toNat_natCast]
  rw [List.append_assoc, List.drop_left, List.take_append_of_le_length (by omega), List.take_of_length_le (by omega)]
  refine Prod.ext rfl (Prod.ext ?_ rfl)
  show ((((enc 9 s.size).length : Nat) : Int) + ((s.size : Nat) : Int)).toNat = (enc 9 s.size).length + s.size
  omega
/-- A right value is got again. -/
theorem take_put {k n : Int} {s : ByteArray} (hr : rightE k n s = 0) (hn : -9223372036854775808 ≤ n ∧ n < 9223372036854775808) (r : List Int) : takeV (putV k n s ++ r) = ((k, n, s), ((putV k n s).length : Int), 0) := by
  unfold putV
  rw [if_neg (by simp [hr])]
  rcases rightE_k hr with rfl | rfl | rfl
  · have hs : s = ⟨#[]⟩ := by
      have h := hr
      simp [rightE] at h; exact h
    subst hs
    rw [if_neg (by decide), List.cons_append, takeV, dI_enc hn.1 hn.2]
    simp; omega
  · have hs : (n = 0 ∨ n = 1) ∧ s = ⟨#[]⟩ := by
      have h := hr
      simp [rightE] at h; exact h
    obtain ⟨h01, rfl⟩ := hs
    rw [if_neg (by decide), List.cons_append, takeV, dI_enc hn.1 hn.2]
    simp [h01]; omega
  · have hs : s.size ≤ 64 ∧ n = 0 := by
      have h := hr
      simp only [rightE, if_true] at h
      by_cases h64 : 64 < s.size
      · rw [if_pos h64] at h; exact absurd h (by decide)
      · rw [if_neg h64] at h
        by_cases h0 : n = 0
        · exact ⟨by omega, h0⟩
        · rw [if_neg h0] at h; exact absurd h (by decide)
    obtain ⟨h64, rfl⟩ := hs
    rw [if_pos rfl, List.cons_append, takeV, dT_enc (by omega) (by omega)]
    simp [nums_of_bytes]; omega
theorem dI_form {l : List Int} (hB : IsB l) (h : (dI l).2.2 = 0) : enc 9 (zz (dI l).1) = l.take (dI l).2.1 ∧ -9223372036854775808 ≤ (dI l).1 ∧ (dI l).1 < 9223372036854775808 := by
  have ho := dec_ok0 hB
  have hf := dec_form 9 0 l 0
  refine ⟨?_, dI_range hB⟩
  unfold dI dU at h ⊢
  generalize dec l 0 0 = d at ho hf h ⊢
  obtain ⟨N, K, E⟩ := d
  simp only at ho h ⊢
  obtain ⟨o1, o2, o3, o4, o5, o6, o7⟩ := ho
  by_cases hE : E = 0
  · subst hE
    have hnm : ¬ 18446744073709551615 < N := by omega
    simp only [ne_eq, not_true, if_false, hnm] at h ⊢
    obtain ⟨n, f1, f2, f3, f4, f5, f6⟩ := hf N K rfl hB rfl
    have hN : N = n := by simpa using f4
    have hK : K.toNat = (enc 9 n).length := by omega
    rw [zz_unz o1, hN, hK]
    conv => rhs; rw [f6]
    rw [List.take_left]
  · simp [hE] at h
theorem dT_form {l : List Int} (hB : IsB l) {most : Int} (h : (dT l most).2.2 = 0) : enc 9 (strOfNums (dT l most).1).size ++ bytesOf (strOfNums (dT l most).1) = l.take (dT l most).2.1 := by
  have ho := dec_ok0 hB
  have hf := dec_form 9 0 l 0
  have hz : ∀ m : List Int, (strOfNums m).size = m.length := fun m => by unfold strOfNums; show (List.toArray _).size = _; simp
  unfold dT at h ⊢
  generalize dec l 0 0 = d at ho hf h ⊢
  obtain ⟨N, K, E⟩ := d
  simp only at ho h ⊢
  obtain ⟨o1, o2, o3, o4, o5, o6, o7⟩ := ho
  by_cases hE : E = 0
  · subst hE
    obtain ⟨n, f1, f2, f3, f4, f5, f6⟩ := hf N K rfl hB rfl
    have hN : N = n := by simpa using f4
    have hK : K.toNat = (enc 9 n).length := by omega
    rw [if_neg (by simp)] at h ⊢
    by_cases c2 : most < 0 ∨ most < N
    · rw [if_pos c2] at h; exact absurd h (by decide)
    rw [if_neg c2] at h ⊢
    by_cases c3 : (l.length : Int) - K < N
    · rw [if_pos c3] at h; exact absurd h (by decide)
    rw [if_neg c3] at h ⊢
    simp only
    rw [hz, bytes_of_nums (isB_take (isB_drop hB _) _), List.length_take, List.length_drop]
    have hmin : ((min N.toNat (l.length - K.toNat) : Nat) : Int) = n := by omega
    rw [hmin]
    have e1 : (K + N).toNat = (enc 9 n).length + N.toNat := by omega
    rw [e1, hK, List.take_add]
    congr 1
    conv => rhs; rw [f6]
    rw [List.take_left]
  · simp [hE] at h
/-- Bytes that are taken are those of the value. -/
theorem put_take {bs : List Int} (hB : IsB bs) (h : (takeV bs).2.2 = 0) : rightE (takeV bs).1.1 (takeV bs).1.2.1 (takeV bs).1.2.2 = 0 ∧ putV (takeV bs).1.1 (takeV bs).1.2.1 (takeV bs).1.2.2 = bs.take (takeV bs).2.1.toNat ∧ 0 ≤ (takeV bs).2.1 ∧ (takeV bs).2.1 ≤ bs.length ∧ (-9223372036854775808 ≤ (takeV bs).1.2.1 ∧ (takeV bs).1.2.1 < 9223372036854775808) ∧ (takeV bs).1.2.2.size ≤ 64 := by
  rcases bs with _ | ⟨c, l⟩
  · simp [takeV] at h
  have hBl := (isB_cons.1 hB).2
  have f1 := dI_form hBl
  have f2 := dT_form hBl (most := 64)
  have l1 := dI_le hBl
  have l2 := dT_le hBl 64
  have l3 := dT_size hBl (most := 64) (by omega)
  rw [takeV] at h ⊢
  generalize dI l = d at f1 l1 h ⊢
  obtain ⟨v, k, e⟩ := d
  generalize dT l 64 = g at f2 l2 l3 h ⊢
  obtain ⟨w, j, e2⟩ := g
  simp only at f1 f2 l1 l2 l3 h ⊢
  by_cases c1 : c = 1
  · subst c1
    simp only [if_true] at h ⊢
    by_cases he : e = 0
    · subst he
      rw [if_neg (by simp)]
      obtain ⟨g1, g2, g3⟩ := f1 rfl
      have hr : rightE 1 v ⟨#[]⟩ = 0 := by simp [rightE]
      refine ⟨hr, ?_, by simp only; omega, by simp only [List.length_cons]; omega, ⟨g2, g3⟩, (by show (⟨#[]⟩ : ByteArray).size ≤ 64; decide)⟩
      simp only
      rw [putV, if_neg (by simp [hr]), if_neg (by decide), g1, show (1 + (k : Int)).toNat = k + 1 by omega, List.take_succ_cons]
    · rw [if_pos (by simpa using he)] at h; exact absurd h he
  rw [if_neg c1] at h ⊢
  by_cases c2 : c = 2
  · subst c2
    simp only [if_true] at h ⊢
    by_cases he : e = 0
    · subst he
      rw [if_neg (by simp)] at h ⊢
      by_cases h01 : v = 0 ∨ v = 1
      · rw [if_pos h01]
        obtain ⟨g1, g2, g3⟩ := f1 rfl
        have hr : rightE 2 v ⟨#[]⟩ = 0 := by simp [rightE, h01]
        refine ⟨hr, ?_, by simp only; omega, by simp only [List.length_cons]; omega, ⟨g2, g3⟩, (by show (⟨#[]⟩ : ByteArray).size ≤ 64; decide)⟩
        simp only
        rw [putV, if_neg (by simp [hr]), if_neg (by decide), g1, show (1 + (k : Int)).toNat = k + 1 by omega, List.take_succ_cons]
      · rw [if_neg h01] at h; exact absurd h (by decide)
    · rw [if_pos (by simpa using he)] at h; exact absurd h he
  rw [if_neg c2] at h ⊢
  by_cases c3 : c = 3
  · subst c3
    simp only [if_true] at h ⊢
    by_cases he : e2 = 0
    · subst he
      rw [if_neg (by simp)]
      have g1 := f2 rfl
      have hr : rightE 3 0 (strOfNums w) = 0 := by simp [rightE]; omega
      refine ⟨hr, ?_, by simp only; omega, by simp only [List.length_cons]; omega, ⟨(by show (-9223372036854775808 : Int) ≤ 0; decide), (by show (0 : Int) < 9223372036854775808; decide)⟩, by simp only; omega⟩
      simp only
      rw [putV, if_neg (by simp [hr]), if_pos rfl, g1, show (1 + (j : Int)).toNat = j + 1 by omega, List.take_succ_cons]
    · rw [if_pos (by simpa using he)] at h; exact absurd h he
  · rw [if_neg c3] at h; exact absurd h (by decide)
end Go.Proofs.Ytekiaempcgjejaa.Asl
