/- Variables taken of bytes, both; EntityTakes. -/
import Derived.Test.YtdbdajmgfajcpaaEL
namespace Go.Proofs.Ytdbdajmgfajcpaa.Asl
open Go Go.RowKit
set_option linter.unusedVariables false
set_option linter.unusedSimpArgs false
set_option maxRecDepth 100000
set_option maxHeartbeats 4000000
theorem takeV_le {l : List Int} (hB : IsB l) : 0 ≤ (takeV l).2.1 ∧ (takeV l).2.1 ≤ l.length := by
  cases l with
  | nil => exact ⟨Int.le_refl _, Int.le_refl _⟩
  | cons c l =>
    obtain ⟨_, hB⟩ := isB_cons.1 hB
    have h1 := dI_le hB
    have h2 := dT_le hB 64
    simp only [takeV, List.length_cons]
    repeat' split
    all_goals simp only <;> omega
/-- The variables that are read, or what is wrong. -/
def tvL : Nat → RSt → List VarV → Int × RSt × List VarV
  | 0, s, out => (0, s, out)
  | n + 1, s, out =>
    if (sT 16 s).2.2 ≠ 0 then ((sT 16 s).2.2, s, [])
    else if (takeV (sT 16 s).2.1).2.2 ≠ 0 then ((takeV (sT 16 s).2.1).2.2, s, [])
    else tvL n ((sT 16 s).2.1.drop (takeV (sT 16 s).2.1).2.1.toNat, 0) (out ++ [⟨(sT 16 s).1, (takeV (sT 16 s).2.1).1.1, (takeV (sT 16 s).2.1).1.2.1, (takeV (sT 16 s).2.1).1.2.2⟩])
def endV (q : Int) (out : List VarV) : Int := if q ≠ 0 then q else varsE out
def varsF (T : Int × RSt × List VarV) : List VarV × Int := if T.1 ≠ 0 then ([], T.1) else outR [] T.2.2 (endV (endE T.2.1.1 T.2.1.2) T.2.2)
def varsR (l : List Int) : List VarV × Int := varsF (tvL (sU 8 (l, 0)).1.toNat (sU 8 (l, 0)).2 [])
theorem At.drop {l : List Int} (n : Nat) (hB : IsB l) (hl : l.length ≤ 1000) : At (l.drop n) 0 (l.drop n) := ⟨Nat.zero_le _, rfl, isB_drop hB n, by rw [List.length_drop]; omega⟩
theorem At.left {bs l : List Int} {a : Nat} (h : At bs a l) : (bs.length : Int) - a = l.length := by
  have h1 := h.le
  rw [← h.eq, List.length_drop]; omega
structure TvI (l : List Int) (n : Nat) (T : Int × RSt × List VarV) (i : Nat) (bs : List Int) (a : Nat) (m : List Int) (e : Int) (out : List VarV) : Prop where
  at_ : At bs a m
  suf : l.drop (l.length - m.length) = m
  le : m.length ≤ l.length
  iN : i ≤ n
  eq : tvL (n - i) (m, e) out = T
  ol : out.length ≤ i
  nm : ∀ x ∈ out, x.n.size < 9223372036854775808
theorem suf_drop {l m : List Int} (h : l.drop (l.length - m.length) = m) (hle : m.length ≤ l.length) (k : Nat) : l.drop (l.length - (m.drop k).length) = m.drop k ∧ (m.drop k).length ≤ l.length := by
  refine ⟨?_, by rw [List.length_drop]; omega⟩
  by_cases hk : k ≤ m.length
  · conv => rhs; rw [← h]
    rw [List.drop_drop, List.length_drop]
    congr 1
    omega
  · have e : m.drop k = [] := List.drop_of_length_le (by omega)
    rw [e]
    simp
@[simp] theorem rens_vapp (l : List VarV) (x : AV) (hx : x.noid = true) (π : Nat → Nat) : AV.rens π (l.map varAV ++ [x]) = l.map varAV ++ [x] := rens_of (noids_app (by simp) (by simp [AV.noids, hx])) π
@[simp] theorem withins_vapp (l : List VarV) (x : AV) (hx : x.noid = true) (h : Hp) : AV.withins h (l.map varAV ++ [x]) = true := withins_of (noids_app (by simp) (by simp [AV.noids, hx])) h
@[simp] theorem take_vars (l : List VarV) : List.take l.length (l.map varAV) = l.map varAV := List.take_of_length_le (by simp)
structure TvS where
  i : Nat
  first : Bool
  bs : List Int
  a : Nat
  m : List Int
  e : Int
  out : List VarV
theorem c_TakeVars (l : List Int) (hB : IsB l) (hl : l.length ≤ 1000) : CallD Try.prog 40 [.sl 1 (u8s l)] noHeap (.tup [.sl 4 ((varsR l).1.map varAV), .raw (.int .i64 (varsR l).2)]) noHeap := by
  have h : At l 0 l := ⟨Nat.zero_le _, rfl, hB, by omega⟩
  have k0 := c_Read l (by omega)
  obtain ⟨a1, g1, k1⟩ := x_U h 0 8
  have w1 := r_U hB 0 (most := 8) (by omega)
  have s1 : l.drop (l.length - (sU 8 (l, 0)).2.1.length) = (sU 8 (l, 0)).2.1 ∧ (sU 8 (l, 0)).2.1.length ≤ l.length := suf_drop (by simp) (Nat.le_refl _) _
  simp only [varsR]
  generalize sU 8 (l, 0) = u at g1 k1 w1 s1 ⊢
  obtain ⟨n, m1, e1⟩ := u
  simp only at g1 k1 w1 s1 ⊢
  obtain ⟨N, hN⟩ : ∃ N : Nat, n = N := ⟨n.toNat, by omega⟩
  subst hN
  rw [Int.toNat_natCast]
  obtain ⟨T, hT⟩ : ∃ T, tvL N (m1, e1) [] = T := ⟨_, rfl⟩
  rw [hT]
  obtain ⟨R, hR⟩ : ∃ R, varsF T = R := ⟨_, rfl⟩
  rw [hR]
  have start : TvI l N T 0 l a1 m1 e1 [] := ⟨g1, s1.1, s1.2, Nat.zero_le _, hT, Nat.le_refl _, by simp⟩
  clear g1 s1 h hT
  refine calls_go (nt := 68) (rs := [.tmp 2, .tmp 3]) Try.func40 rfl rfl rfl (by simp) (by intro id h; simp at h <;> omega) ?_; intro Q hQ hW
  repeat' (first
    | (with_reducible refine run_n ?_; with_reducible first | refine hK _ _ (by simp) ?_ | refine hK _ _ ?_; clear hK K)
    | (with_reducible first | refine awp_seq ?_ | refine then_n ?_ | refine then_r ?_ | refine then_e ?_ | refine awp_skip ?_ | refine awp_label ?_ | refine awp_ret ?_ | refine awp_exit ?_ | refine awp_block ?_ | refine awp_scope ?_ | refine in_n ?_ | refine in_r ?_ | refine in_e ?_ | refine in_ne (by decide) ?_ | refine ng_n ?_ | refine ng_r ?_ | refine ng_e ?_)
    | (with_reducible refine awp_regT (by kernel_rfl) ?_; intro K hK)
    | (with_reducible refine a_cond (ht := ?_) (hf := ?_) <;> intro hb <;> (try simp at hb) <;> (try contradiction) <;> (try subst hb) <;> (try omega))
    | (with_reducible first | refine a_move (hr := ?_) | refine a_assign (hr := ?_) | refine a_load (hr := ?_) | refine a_fieldAddr (hr := ?_) | refine a_bin (hr := ?_) | refine a_lenS (hr := ?_) | refine a_lenR (hr := ?_) | refine a_extract (hr := ?_) | refine a_store (hr := ?_) | refine a_alloc (hr := ?_) | refine a_neB (hr := ?_) | refine a_conv (hr := ?_) | refine a_bytesStr (hr := ?_) | refine a_strBytes (hr := ?_) | refine a_sliceArr (hr := ?_) | refine a_neS (hr := ?_) | refine a_sliceS (hr := ?_) | refine a_sliceR (hr := ?_) | refine a_build (hr := ?_) | refine a_buildSlice (hr := ?_) | refine a_append (hr := ?_) | refine a_append0 (hr := ?_) | refine a_appendX (hr := ?_) | refine a_callB (hcall := k0) (hr := ?_) | refine a_callP (p := 15) (hcall := k1) (hr := ?_))
    | fail)
  refine awp_inv (α := TvS) (fun s => [(0, .sl 1 (u8s l)), (4, .ptr (if s.first = true then 15 else 61) 0), (6, orow 60 4 (s.out.map varAV)), (19, .raw (.int .i64 N)), (20, .raw (.int .i64 s.i))]) (fun s => ohp 60 4 (s.out.map varAV) (hpL [((if s.first = true then 15 else 61), .box (rdAV s.bs s.a s.e))])) (fun s => TvI l N T s.i s.bs s.a s.m s.e s.out) (fun s => N - s.i) ⟨0, true, l, a1, m1, e1, []⟩ start (weak_o (by repeat' (first | refine sub_ohp (by first | (simp; done) | (intro hne; simp at hne; simp [hne])) (by simp) ?_ | exact sub_hpL (by simp))) (by simp) (by simp <;> omega)) ?_
  rintro ⟨i, first, bs, a, m, e, out⟩ ⟨g2, g3, g4, g5, g6, g7, g8⟩
  simp only at g2 g3 g4 g5 g6 g7 g8 ⊢
  cases first with
  | true =>
    simp only [if_true]
    rcases Nat.lt_or_ge i N with hlt | hge
    · obtain ⟨k, hk⟩ : ∃ k, N - i = k + 1 := ⟨N - i - 1, by omega⟩
      rw [hk] at g6
      simp only [tvL] at g6
      obtain ⟨a2, p1, q1⟩ := x_T g2 e 16 (by omega)
      have z1 := r_T m e 16
      have s2 : l.drop (l.length - (sT 16 (m, e)).2.1.length) = (sT 16 (m, e)).2.1 ∧ (sT 16 (m, e)).2.1.length ≤ l.length := suf_drop g3 g4 _
      generalize sT 16 (m, e) = r at p1 q1 z1 s2 g6
      obtain ⟨v, m2, e2⟩ := r
      simp only at p1 q1 z1 s2 g6
      have q2 := c_Err bs a2 e2
      by_cases he : e2 = 0
      · subst he
        simp only [ne_eq, not_true_eq_false, if_false] at g6
        have q3 := c_Left bs a2 0 (by have := p1.lt; omega) p1.le
        rw [p1.left] at q3
        have hBm : IsB m2 := p1.b
        have q4 := c_Take m2 hBm (by omega)
        have z4 := takeV_le hBm
        rw [show u8s m2 = u8s (List.drop (l.length - m2.length) l) by rw [s2.1]] at q4
        generalize takeV m2 = t at q4 z4 g6
        obtain ⟨⟨vk, vn, vs⟩, kk, q⟩ := t
        simp only at q4 z4 g6
        by_cases hq : q = 0
        · subst hq
          simp only [ne_eq, not_true_eq_false, if_false] at g6
          obtain ⟨KK, hk0⟩ : ∃ KK : Nat, kk = KK := ⟨kk.toNat, by omega⟩
          subst hk0
          rw [Int.toNat_natCast] at g6
          have hE : List.drop KK (List.take (l.length - (l.length - m2.length)) (List.drop (l.length - m2.length) l)) = m2.drop KK := by rw [List.take_of_length_le (by rw [List.length_drop]; omega), s2.1]
          have q5 := c_Read (List.drop KK (List.take (l.length - (l.length - m2.length)) (List.drop (l.length - m2.length) l))) (by rw [hE, List.length_drop]; omega)
          have s3 := suf_drop s2.1 s2.2 KK
          have s4 : At (List.drop KK (List.take (l.length - (l.length - m2.length)) (List.drop (l.length - m2.length) l))) 0 (m2.drop KK) := by rw [hE]; exact At.drop KK hBm (by omega)
          have s21 := s2.1
          have s22 := s2.2
          repeat' (first
    | (with_reducible refine run_n ?_; with_reducible first | refine hK _ _ (by simp) ?_ | refine hK _ _ ?_; clear hK K)
    | (with_reducible first | refine awp_seq ?_ | refine then_n ?_ | refine then_r ?_ | refine then_e ?_ | refine awp_skip ?_ | refine awp_label ?_ | refine awp_ret ?_ | refine awp_exit ?_ | refine awp_block ?_ | refine awp_scope ?_ | refine in_n ?_ | refine in_r ?_ | refine in_e ?_ | refine in_ne (by decide) ?_ | refine ng_n ?_ | refine ng_r ?_ | refine ng_e ?_)
    | (with_reducible refine awp_regT (by kernel_rfl) ?_; intro K hK)
    | (with_reducible refine a_cond (ht := ?_) (hf := ?_) <;> intro hb <;> (try simp at hb) <;> (try contradiction) <;> (try subst hb) <;> (try omega))
    | (with_reducible first | refine a_move (hr := ?_) | refine a_assign (hr := ?_) | refine a_load (hr := ?_) | refine a_fieldAddr (hr := ?_) | refine a_bin (hr := ?_) | refine a_lenS (hr := ?_) | refine a_lenR (hr := ?_) | refine a_extract (hr := ?_) | refine a_store (hr := ?_) | refine a_alloc (hr := ?_) | refine a_neB (hr := ?_) | refine a_conv (hr := ?_) | refine a_bytesStr (hr := ?_) | refine a_strBytes (hr := ?_) | refine a_sliceArr (hr := ?_) | refine a_neS (hr := ?_) | refine a_sliceS (hr := ?_) | refine a_sliceR (hr := ?_) | refine a_build (hr := ?_) | refine a_buildSlice (hr := ?_) | refine a_append (hr := ?_) | refine a_append0 (hr := ?_) | refine a_appendX (hr := ?_) | refine a_callP (p := 15) (hcall := q1) (hr := ?_) | refine a_callP (p := 15) (hcall := q2) (hr := ?_) | refine a_callP (p := 15) (hcall := q3) (hr := ?_) | refine a_callF (hcall := q4) (hr := ?_) | refine a_callB (hcall := q5) (hr := ?_))
    | fail)
          exact ⟨⟨i + 1, false, List.drop KK (List.take (l.length - (l.length - m2.length)) (List.drop (l.length - m2.length) l)), 0, m2.drop KK, 0, out ++ [⟨v, vk, vn, vs⟩]⟩, Nat.sub_lt_sub_left hlt (Nat.lt_succ_self i), ⟨s4, s3.1, s3.2, hlt, by rw [show N - (i + 1) = k by omega]; exact g6, by simp; omega, by simp only [List.mem_append, List.mem_singleton]; rintro x (hx | rfl); exact g8 x hx; simp only; omega⟩, weak_or2 60 51 61 55 (by decide) (by decide) (by decide) (by decide) (by repeat' (first | refine sub_ohp (by first | (simp; done) | (intro hne; simp at hne; simp [hne])) (by simp) ?_ | exact sub_hpL (by simp))) (by simp) (by simp <;> omega)⟩
        · rw [if_pos hq] at g6
          have hF : R = ([], q) := by rw [← hR, ← g6]; simp only [varsF]; rw [if_pos hq]
          rw [hF] at hQ
          repeat' (first
    | (with_reducible refine run_n ?_; with_reducible first | refine hK _ _ (by simp) ?_ | refine hK _ _ ?_; clear hK K)
    | (with_reducible first | refine awp_seq ?_ | refine then_n ?_ | refine then_r ?_ | refine then_e ?_ | refine awp_skip ?_ | refine awp_label ?_ | refine awp_ret ?_ | refine awp_exit ?_ | refine awp_block ?_ | refine awp_scope ?_ | refine in_n ?_ | refine in_r ?_ | refine in_e ?_ | refine in_ne (by decide) ?_ | refine ng_n ?_ | refine ng_r ?_ | refine ng_e ?_)
    | (with_reducible refine awp_regT (by kernel_rfl) ?_; intro K hK)
    | (with_reducible refine a_cond (ht := ?_) (hf := ?_) <;> intro hb <;> (try simp at hb) <;> (try contradiction) <;> (try subst hb) <;> (try omega))
    | (with_reducible first | refine a_move (hr := ?_) | refine a_assign (hr := ?_) | refine a_load (hr := ?_) | refine a_fieldAddr (hr := ?_) | refine a_bin (hr := ?_) | refine a_lenS (hr := ?_) | refine a_lenR (hr := ?_) | refine a_extract (hr := ?_) | refine a_store (hr := ?_) | refine a_alloc (hr := ?_) | refine a_neB (hr := ?_) | refine a_conv (hr := ?_) | refine a_bytesStr (hr := ?_) | refine a_strBytes (hr := ?_) | refine a_sliceArr (hr := ?_) | refine a_neS (hr := ?_) | refine a_sliceS (hr := ?_) | refine a_sliceR (hr := ?_) | refine a_build (hr := ?_) | refine a_buildSlice (hr := ?_) | refine a_append (hr := ?_) | refine a_append0 (hr := ?_) | refine a_appendX (hr := ?_) | refine a_callP (p := 15) (hcall := q1) (hr := ?_) | refine a_callP (p := 15) (hcall := q2) (hr := ?_) | refine a_callP (p := 15) (hcall := q3) (hr := ?_) | refine a_callF (hcall := q4) (hr := ?_))
    | fail)
          (refine hQ _ _ _ _ (by first | exact .inr rfl | exact .inl rfl) (by simp; exact .r) (by simp; exact .r) ?_)
          exact (Fin.drop (by simp; exact .r) (by simp)).trans Fin.tupNil
      · rw [if_pos he] at g6
        have hF : R = ([], e2) := by rw [← hR, ← g6]; simp only [varsF]; rw [if_pos he]
        rw [hF] at hQ
        repeat' (first
    | (with_reducible refine run_n ?_; with_reducible first | refine hK _ _ (by simp) ?_ | refine hK _ _ ?_; clear hK K)
    | (with_reducible first | refine awp_seq ?_ | refine then_n ?_ | refine then_r ?_ | refine then_e ?_ | refine awp_skip ?_ | refine awp_label ?_ | refine awp_ret ?_ | refine awp_exit ?_ | refine awp_block ?_ | refine awp_scope ?_ | refine in_n ?_ | refine in_r ?_ | refine in_e ?_ | refine in_ne (by decide) ?_ | refine ng_n ?_ | refine ng_r ?_ | refine ng_e ?_)
    | (with_reducible refine awp_regT (by kernel_rfl) ?_; intro K hK)
    | (with_reducible refine a_cond (ht := ?_) (hf := ?_) <;> intro hb <;> (try simp at hb) <;> (try contradiction) <;> (try subst hb) <;> (try omega))
    | (with_reducible first | refine a_move (hr := ?_) | refine a_assign (hr := ?_) | refine a_load (hr := ?_) | refine a_fieldAddr (hr := ?_) | refine a_bin (hr := ?_) | refine a_lenS (hr := ?_) | refine a_lenR (hr := ?_) | refine a_extract (hr := ?_) | refine a_store (hr := ?_) | refine a_alloc (hr := ?_) | refine a_neB (hr := ?_) | refine a_conv (hr := ?_) | refine a_bytesStr (hr := ?_) | refine a_strBytes (hr := ?_) | refine a_sliceArr (hr := ?_) | refine a_neS (hr := ?_) | refine a_sliceS (hr := ?_) | refine a_sliceR (hr := ?_) | refine a_build (hr := ?_) | refine a_buildSlice (hr := ?_) | refine a_append (hr := ?_) | refine a_append0 (hr := ?_) | refine a_appendX (hr := ?_) | refine a_callP (p := 15) (hcall := q1) (hr := ?_) | refine a_callP (p := 15) (hcall := q2) (hr := ?_))
    | fail)
        (refine hQ _ _ _ _ (by first | exact .inr rfl | exact .inl rfl) (by simp; exact .r) (by simp; exact .r) ?_)
        exact (Fin.drop (by simp; exact .r) (by simp)).trans Fin.tupNil
    · obtain rfl : i = N := by omega
      rw [Nat.sub_self] at g6
      simp only [tvL] at g6
      have hF : R = outR [] out (endV (endE m e) out) := by rw [← hR, ← g6]; rfl
      have q6 := x_End g2 e
      generalize endE m e = q at q6 hF
      by_cases hq : q = 0
      · subst hq
        have hF : R = outR [] out (varsE out) := hF
        have q7 := c_Vars out (by omega) g8
        by_cases ho : out = []
        · subst ho
          have hF : R = ([], 0) := hF
          have q8 : CallD Try.prog 71 [.raw (.slice none 0 0)] noHeap (.raw (.int .i64 0)) noHeap := CallD.nil1 q7
          rw [hF] at hQ
          repeat' (first
    | (with_reducible refine run_n ?_; with_reducible first | refine hK _ _ (by simp) ?_ | refine hK _ _ ?_; clear hK K)
    | (with_reducible first | refine awp_seq ?_ | refine then_n ?_ | refine then_r ?_ | refine then_e ?_ | refine awp_skip ?_ | refine awp_label ?_ | refine awp_ret ?_ | refine awp_exit ?_ | refine awp_block ?_ | refine awp_scope ?_ | refine in_n ?_ | refine in_r ?_ | refine in_e ?_ | refine in_ne (by decide) ?_ | refine ng_n ?_ | refine ng_r ?_ | refine ng_e ?_)
    | (with_reducible refine awp_regT (by kernel_rfl) ?_; intro K hK)
    | (with_reducible refine a_cond (ht := ?_) (hf := ?_) <;> intro hb <;> (try simp at hb) <;> (try contradiction) <;> (try subst hb) <;> (try omega))
    | (with_reducible first | refine a_move (hr := ?_) | refine a_assign (hr := ?_) | refine a_load (hr := ?_) | refine a_fieldAddr (hr := ?_) | refine a_bin (hr := ?_) | refine a_lenS (hr := ?_) | refine a_lenR (hr := ?_) | refine a_extract (hr := ?_) | refine a_store (hr := ?_) | refine a_alloc (hr := ?_) | refine a_neB (hr := ?_) | refine a_conv (hr := ?_) | refine a_bytesStr (hr := ?_) | refine a_strBytes (hr := ?_) | refine a_sliceArr (hr := ?_) | refine a_neS (hr := ?_) | refine a_sliceS (hr := ?_) | refine a_sliceR (hr := ?_) | refine a_build (hr := ?_) | refine a_buildSlice (hr := ?_) | refine a_append (hr := ?_) | refine a_append0 (hr := ?_) | refine a_appendX (hr := ?_) | refine a_callP (p := 15) (hcall := q6) (hr := ?_) | refine a_callF (hcall := q8) (hr := ?_))
    | fail)
          (refine hQ _ _ _ _ (by first | exact .inr rfl | exact .inl rfl) (by simp; exact .r) (by simp; exact .r) ?_)
          exact (Fin.drop (by simp; exact .r) (by simp)).trans Fin.tupNil
        · generalize varsE out = w at q7 hF
          have hne : out.map varAV ≠ [] := by simpa using ho
          rw [orow_ne hne, ohp_ne hne]
          by_cases hw : w = 0
          · subst hw
            have hF : R = (out, 0) := hF
            rw [hF] at hQ
            repeat' (first
    | (with_reducible refine run_n ?_; with_reducible first | refine hK _ _ (by simp) ?_ | refine hK _ _ ?_; clear hK K)
    | (with_reducible first | refine awp_seq ?_ | refine then_n ?_ | refine then_r ?_ | refine then_e ?_ | refine awp_skip ?_ | refine awp_label ?_ | refine awp_ret ?_ | refine awp_exit ?_ | refine awp_block ?_ | refine awp_scope ?_ | refine in_n ?_ | refine in_r ?_ | refine in_e ?_ | refine in_ne (by decide) ?_ | refine ng_n ?_ | refine ng_r ?_ | refine ng_e ?_)
    | (with_reducible refine awp_regT (by kernel_rfl) ?_; intro K hK)
    | (with_reducible refine a_cond (ht := ?_) (hf := ?_) <;> intro hb <;> (try simp at hb) <;> (try contradiction) <;> (try subst hb) <;> (try omega))
    | (with_reducible first | refine a_move (hr := ?_) | refine a_assign (hr := ?_) | refine a_load (hr := ?_) | refine a_fieldAddr (hr := ?_) | refine a_bin (hr := ?_) | refine a_lenS (hr := ?_) | refine a_lenR (hr := ?_) | refine a_extract (hr := ?_) | refine a_store (hr := ?_) | refine a_alloc (hr := ?_) | refine a_neB (hr := ?_) | refine a_conv (hr := ?_) | refine a_bytesStr (hr := ?_) | refine a_strBytes (hr := ?_) | refine a_sliceArr (hr := ?_) | refine a_neS (hr := ?_) | refine a_sliceS (hr := ?_) | refine a_sliceR (hr := ?_) | refine a_build (hr := ?_) | refine a_buildSlice (hr := ?_) | refine a_append (hr := ?_) | refine a_append0 (hr := ?_) | refine a_appendX (hr := ?_) | refine a_callP (p := 15) (hcall := q6) (hr := ?_) | refine a_callF (hcall := q7) (hr := ?_))
    | fail)
            (refine hQ _ _ _ _ (by first | exact .inr rfl | exact .inl rfl) (by simp; exact .r) (by simp; exact .r) ?_)
            exact Fin.trans (Fin.frzR (r' := .tup [.sl 4 (out.map varAV), .raw (.int .i64 0)]) (by simp; exact .r) (by simp [List.take_of_length_le]; exact .r) (by simp; exact .r) (by simp)) (Fin.refl _ _)
          · rw [outR_n _ _ hw] at hF
            rw [hF] at hQ
            repeat' (first
    | (with_reducible refine run_n ?_; with_reducible first | refine hK _ _ (by simp) ?_ | refine hK _ _ ?_; clear hK K)
    | (with_reducible first | refine awp_seq ?_ | refine then_n ?_ | refine then_r ?_ | refine then_e ?_ | refine awp_skip ?_ | refine awp_label ?_ | refine awp_ret ?_ | refine awp_exit ?_ | refine awp_block ?_ | refine awp_scope ?_ | refine in_n ?_ | refine in_r ?_ | refine in_e ?_ | refine in_ne (by decide) ?_ | refine ng_n ?_ | refine ng_r ?_ | refine ng_e ?_)
    | (with_reducible refine awp_regT (by kernel_rfl) ?_; intro K hK)
    | (with_reducible refine a_cond (ht := ?_) (hf := ?_) <;> intro hb <;> (try simp at hb) <;> (try contradiction) <;> (try subst hb) <;> (try omega))
    | (with_reducible first | refine a_move (hr := ?_) | refine a_assign (hr := ?_) | refine a_load (hr := ?_) | refine a_fieldAddr (hr := ?_) | refine a_bin (hr := ?_) | refine a_lenS (hr := ?_) | refine a_lenR (hr := ?_) | refine a_extract (hr := ?_) | refine a_store (hr := ?_) | refine a_alloc (hr := ?_) | refine a_neB (hr := ?_) | refine a_conv (hr := ?_) | refine a_bytesStr (hr := ?_) | refine a_strBytes (hr := ?_) | refine a_sliceArr (hr := ?_) | refine a_neS (hr := ?_) | refine a_sliceS (hr := ?_) | refine a_sliceR (hr := ?_) | refine a_build (hr := ?_) | refine a_buildSlice (hr := ?_) | refine a_append (hr := ?_) | refine a_append0 (hr := ?_) | refine a_appendX (hr := ?_) | refine a_callP (p := 15) (hcall := q6) (hr := ?_) | refine a_callF (hcall := q7) (hr := ?_))
    | fail)
            (refine hQ _ _ _ _ (by first | exact .inr rfl | exact .inl rfl) (by simp; exact .r) (by simp; exact .r) ?_)
            exact (Fin.drop (by simp; exact .r) (by simp)).trans Fin.tupNil
      · have hF : R = ([], q) := by rw [hF]; unfold endV; rw [if_pos hq, outR_n _ _ hq]
        rw [hF] at hQ
        repeat' (first
    | (with_reducible refine run_n ?_; with_reducible first | refine hK _ _ (by simp) ?_ | refine hK _ _ ?_; clear hK K)
    | (with_reducible first | refine awp_seq ?_ | refine then_n ?_ | refine then_r ?_ | refine then_e ?_ | refine awp_skip ?_ | refine awp_label ?_ | refine awp_ret ?_ | refine awp_exit ?_ | refine awp_block ?_ | refine awp_scope ?_ | refine in_n ?_ | refine in_r ?_ | refine in_e ?_ | refine in_ne (by decide) ?_ | refine ng_n ?_ | refine ng_r ?_ | refine ng_e ?_)
    | (with_reducible refine awp_regT (by kernel_rfl) ?_; intro K hK)
    | (with_reducible refine a_cond (ht := ?_) (hf := ?_) <;> intro hb <;> (try simp at hb) <;> (try contradiction) <;> (try subst hb) <;> (try omega))
    | (with_reducible first | refine a_move (hr := ?_) | refine a_assign (hr := ?_) | refine a_load (hr := ?_) | refine a_fieldAddr (hr := ?_) | refine a_bin (hr := ?_) | refine a_lenS (hr := ?_) | refine a_lenR (hr := ?_) | refine a_extract (hr := ?_) | refine a_store (hr := ?_) | refine a_alloc (hr := ?_) | refine a_neB (hr := ?_) | refine a_conv (hr := ?_) | refine a_bytesStr (hr := ?_) | refine a_strBytes (hr := ?_) | refine a_sliceArr (hr := ?_) | refine a_neS (hr := ?_) | refine a_sliceS (hr := ?_) | refine a_sliceR (hr := ?_) | refine a_build (hr := ?_) | refine a_buildSlice (hr := ?_) | refine a_append (hr := ?_) | refine a_append0 (hr := ?_) | refine a_appendX (hr := ?_) | refine a_callP (p := 15) (hcall := q6) (hr := ?_))
    | fail)
        (refine hQ _ _ _ _ (by first | exact .inr rfl | exact .inl rfl) (by simp; exact .r) (by simp; exact .r) ?_)
        exact (Fin.drop (by simp; exact .r) (by simp)).trans Fin.tupNil
  | false =>
    simp only [Bool.false_eq_true, if_false]
    rcases Nat.lt_or_ge i N with hlt | hge
    · obtain ⟨k, hk⟩ : ∃ k, N - i = k + 1 := ⟨N - i - 1, by omega⟩
      rw [hk] at g6
      simp only [tvL] at g6
      obtain ⟨a2, p1, q1⟩ := x_T g2 e 16 (by omega)
      have z1 := r_T m e 16
      have s2 : l.drop (l.length - (sT 16 (m, e)).2.1.length) = (sT 16 (m, e)).2.1 ∧ (sT 16 (m, e)).2.1.length ≤ l.length := suf_drop g3 g4 _
      generalize sT 16 (m, e) = r at p1 q1 z1 s2 g6
      obtain ⟨v, m2, e2⟩ := r
      simp only at p1 q1 z1 s2 g6
      have q2 := c_Err bs a2 e2
      by_cases he : e2 = 0
      · subst he
        simp only [ne_eq, not_true_eq_false, if_false] at g6
        have q3 := c_Left bs a2 0 (by have := p1.lt; omega) p1.le
        rw [p1.left] at q3
        have hBm : IsB m2 := p1.b
        have q4 := c_Take m2 hBm (by omega)
        have z4 := takeV_le hBm
        rw [show u8s m2 = u8s (List.drop (l.length - m2.length) l) by rw [s2.1]] at q4
        generalize takeV m2 = t at q4 z4 g6
        obtain ⟨⟨vk, vn, vs⟩, kk, q⟩ := t
        simp only at q4 z4 g6
        by_cases hq : q = 0
        · subst hq
          simp only [ne_eq, not_true_eq_false, if_false] at g6
          obtain ⟨KK, hk0⟩ : ∃ KK : Nat, kk = KK := ⟨kk.toNat, by omega⟩
          subst hk0
          rw [Int.toNat_natCast] at g6
          have hE : List.drop KK (List.take (l.length - (l.length - m2.length)) (List.drop (l.length - m2.length) l)) = m2.drop KK := by rw [List.take_of_length_le (by rw [List.length_drop]; omega), s2.1]
          have q5 := c_Read (List.drop KK (List.take (l.length - (l.length - m2.length)) (List.drop (l.length - m2.length) l))) (by rw [hE, List.length_drop]; omega)
          have s3 := suf_drop s2.1 s2.2 KK
          have s4 : At (List.drop KK (List.take (l.length - (l.length - m2.length)) (List.drop (l.length - m2.length) l))) 0 (m2.drop KK) := by rw [hE]; exact At.drop KK hBm (by omega)
          have s21 := s2.1
          have s22 := s2.2
          repeat' (first
    | (with_reducible refine run_n ?_; with_reducible first | refine hK _ _ (by simp) ?_ | refine hK _ _ ?_; clear hK K)
    | (with_reducible first | refine awp_seq ?_ | refine then_n ?_ | refine then_r ?_ | refine then_e ?_ | refine awp_skip ?_ | refine awp_label ?_ | refine awp_ret ?_ | refine awp_exit ?_ | refine awp_block ?_ | refine awp_scope ?_ | refine in_n ?_ | refine in_r ?_ | refine in_e ?_ | refine in_ne (by decide) ?_ | refine ng_n ?_ | refine ng_r ?_ | refine ng_e ?_)
    | (with_reducible refine awp_regT (by kernel_rfl) ?_; intro K hK)
    | (with_reducible refine a_cond (ht := ?_) (hf := ?_) <;> intro hb <;> (try simp at hb) <;> (try contradiction) <;> (try subst hb) <;> (try omega))
    | (with_reducible first | refine a_move (hr := ?_) | refine a_assign (hr := ?_) | refine a_load (hr := ?_) | refine a_fieldAddr (hr := ?_) | refine a_bin (hr := ?_) | refine a_lenS (hr := ?_) | refine a_lenR (hr := ?_) | refine a_extract (hr := ?_) | refine a_store (hr := ?_) | refine a_alloc (hr := ?_) | refine a_neB (hr := ?_) | refine a_conv (hr := ?_) | refine a_bytesStr (hr := ?_) | refine a_strBytes (hr := ?_) | refine a_sliceArr (hr := ?_) | refine a_neS (hr := ?_) | refine a_sliceS (hr := ?_) | refine a_sliceR (hr := ?_) | refine a_build (hr := ?_) | refine a_buildSlice (hr := ?_) | refine a_append (hr := ?_) | refine a_append0 (hr := ?_) | refine a_appendX (hr := ?_) | refine a_callP (p := 61) (hcall := q1) (hr := ?_) | refine a_callP (p := 61) (hcall := q2) (hr := ?_) | refine a_callP (p := 61) (hcall := q3) (hr := ?_) | refine a_callF (hcall := q4) (hr := ?_) | refine a_callB (hcall := q5) (hr := ?_))
    | fail)
          exact ⟨⟨i + 1, false, List.drop KK (List.take (l.length - (l.length - m2.length)) (List.drop (l.length - m2.length) l)), 0, m2.drop KK, 0, out ++ [⟨v, vk, vn, vs⟩]⟩, Nat.sub_lt_sub_left hlt (Nat.lt_succ_self i), ⟨s4, s3.1, s3.2, hlt, by rw [show N - (i + 1) = k by omega]; exact g6, by simp; omega, by simp only [List.mem_append, List.mem_singleton]; rintro x (hx | rfl); exact g8 x hx; simp only; omega⟩, weak_or2 60 51 61 55 (by decide) (by decide) (by decide) (by decide) (by repeat' (first | refine sub_ohp (by first | (simp; done) | (intro hne; simp at hne; simp [hne])) (by simp) ?_ | exact sub_hpL (by simp))) (by simp) (by simp <;> omega)⟩
        · rw [if_pos hq] at g6
          have hF : R = ([], q) := by rw [← hR, ← g6]; simp only [varsF]; rw [if_pos hq]
          rw [hF] at hQ
          repeat' (first
    | (with_reducible refine run_n ?_; with_reducible first | refine hK _ _ (by simp) ?_ | refine hK _ _ ?_; clear hK K)
    | (with_reducible first | refine awp_seq ?_ | refine then_n ?_ | refine then_r ?_ | refine then_e ?_ | refine awp_skip ?_ | refine awp_label ?_ | refine awp_ret ?_ | refine awp_exit ?_ | refine awp_block ?_ | refine awp_scope ?_ | refine in_n ?_ | refine in_r ?_ | refine in_e ?_ | refine in_ne (by decide) ?_ | refine ng_n ?_ | refine ng_r ?_ | refine ng_e ?_)
    | (with_reducible refine awp_regT (by kernel_rfl) ?_; intro K hK)
    | (with_reducible refine a_cond (ht := ?_) (hf := ?_) <;> intro hb <;> (try simp at hb) <;> (try contradiction) <;> (try subst hb) <;> (try omega))
    | (with_reducible first | refine a_move (hr := ?_) | refine a_assign (hr := ?_) | refine a_load (hr := ?_) | refine a_fieldAddr (hr := ?_) | refine a_bin (hr := ?_) | refine a_lenS (hr := ?_) | refine a_lenR (hr := ?_) | refine a_extract (hr := ?_) | refine a_store (hr := ?_) | refine a_alloc (hr := ?_) | refine a_neB (hr := ?_) | refine a_conv (hr := ?_) | refine a_bytesStr (hr := ?_) | refine a_strBytes (hr := ?_) | refine a_sliceArr (hr := ?_) | refine a_neS (hr := ?_) | refine a_sliceS (hr := ?_) | refine a_sliceR (hr := ?_) | refine a_build (hr := ?_) | refine a_buildSlice (hr := ?_) | refine a_append (hr := ?_) | refine a_append0 (hr := ?_) | refine a_appendX (hr := ?_) | refine a_callP (p := 61) (hcall := q1) (hr := ?_) | refine a_callP (p := 61) (hcall := q2) (hr := ?_) | refine a_callP (p := 61) (hcall := q3) (hr := ?_) | refine a_callF (hcall := q4) (hr := ?_))
    | fail)
          (refine hQ _ _ _ _ (by first | exact .inr rfl | exact .inl rfl) (by simp; exact .r) (by simp; exact .r) ?_)
          exact (Fin.drop (by simp; exact .r) (by simp)).trans Fin.tupNil
      · rw [if_pos he] at g6
        have hF : R = ([], e2) := by rw [← hR, ← g6]; simp only [varsF]; rw [if_pos he]
        rw [hF] at hQ
        repeat' (first
    | (with_reducible refine run_n ?_; with_reducible first | refine hK _ _ (by simp) ?_ | refine hK _ _ ?_; clear hK K)
    | (with_reducible first | refine awp_seq ?_ | refine then_n ?_ | refine then_r ?_ | refine then_e ?_ | refine awp_skip ?_ | refine awp_label ?_ | refine awp_ret ?_ | refine awp_exit ?_ | refine awp_block ?_ | refine awp_scope ?_ | refine in_n ?_ | refine in_r ?_ | refine in_e ?_ | refine in_ne (by decide) ?_ | refine ng_n ?_ | refine ng_r ?_ | refine ng_e ?_)
    | (with_reducible refine awp_regT (by kernel_rfl) ?_; intro K hK)
    | (with_reducible refine a_cond (ht := ?_) (hf := ?_) <;> intro hb <;> (try simp at hb) <;> (try contradiction) <;> (try subst hb) <;> (try omega))
    | (with_reducible first | refine a_move (hr := ?_) | refine a_assign (hr := ?_) | refine a_load (hr := ?_) | refine a_fieldAddr (hr := ?_) | refine a_bin (hr := ?_) | refine a_lenS (hr := ?_) | refine a_lenR (hr := ?_) | refine a_extract (hr := ?_) | refine a_store (hr := ?_) | refine a_alloc (hr := ?_) | refine a_neB (hr := ?_) | refine a_conv (hr := ?_) | refine a_bytesStr (hr := ?_) | refine a_strBytes (hr := ?_) | refine a_sliceArr (hr := ?_) | refine a_neS (hr := ?_) | refine a_sliceS (hr := ?_) | refine a_sliceR (hr := ?_) | refine a_build (hr := ?_) | refine a_buildSlice (hr := ?_) | refine a_append (hr := ?_) | refine a_append0 (hr := ?_) | refine a_appendX (hr := ?_) | refine a_callP (p := 61) (hcall := q1) (hr := ?_) | refine a_callP (p := 61) (hcall := q2) (hr := ?_))
    | fail)
        (refine hQ _ _ _ _ (by first | exact .inr rfl | exact .inl rfl) (by simp; exact .r) (by simp; exact .r) ?_)
        exact (Fin.drop (by simp; exact .r) (by simp)).trans Fin.tupNil
    · obtain rfl : i = N := by omega
      rw [Nat.sub_self] at g6
      simp only [tvL] at g6
      have hF : R = outR [] out (endV (endE m e) out) := by rw [← hR, ← g6]; rfl
      have q6 := x_End g2 e
      generalize endE m e = q at q6 hF
      by_cases hq : q = 0
      · subst hq
        have hF : R = outR [] out (varsE out) := hF
        have q7 := c_Vars out (by omega) g8
        by_cases ho : out = []
        · subst ho
          have hF : R = ([], 0) := hF
          have q8 : CallD Try.prog 71 [.raw (.slice none 0 0)] noHeap (.raw (.int .i64 0)) noHeap := CallD.nil1 q7
          rw [hF] at hQ
          repeat' (first
    | (with_reducible refine run_n ?_; with_reducible first | refine hK _ _ (by simp) ?_ | refine hK _ _ ?_; clear hK K)
    | (with_reducible first | refine awp_seq ?_ | refine then_n ?_ | refine then_r ?_ | refine then_e ?_ | refine awp_skip ?_ | refine awp_label ?_ | refine awp_ret ?_ | refine awp_exit ?_ | refine awp_block ?_ | refine awp_scope ?_ | refine in_n ?_ | refine in_r ?_ | refine in_e ?_ | refine in_ne (by decide) ?_ | refine ng_n ?_ | refine ng_r ?_ | refine ng_e ?_)
    | (with_reducible refine awp_regT (by kernel_rfl) ?_; intro K hK)
    | (with_reducible refine a_cond (ht := ?_) (hf := ?_) <;> intro hb <;> (try simp at hb) <;> (try contradiction) <;> (try subst hb) <;> (try omega))
    | (with_reducible first | refine a_move (hr := ?_) | refine a_assign (hr := ?_) | refine a_load (hr := ?_) | refine a_fieldAddr (hr := ?_) | refine a_bin (hr := ?_) | refine a_lenS (hr := ?_) | refine a_lenR (hr := ?_) | refine a_extract (hr := ?_) | refine a_store (hr := ?_) | refine a_alloc (hr := ?_) | refine a_neB (hr := ?_) | refine a_conv (hr := ?_) | refine a_bytesStr (hr := ?_) | refine a_strBytes (hr := ?_) | refine a_sliceArr (hr := ?_) | refine a_neS (hr := ?_) | refine a_sliceS (hr := ?_) | refine a_sliceR (hr := ?_) | refine a_build (hr := ?_) | refine a_buildSlice (hr := ?_) | refine a_append (hr := ?_) | refine a_append0 (hr := ?_) | refine a_appendX (hr := ?_) | refine a_callP (p := 61) (hcall := q6) (hr := ?_) | refine a_callF (hcall := q8) (hr := ?_))
    | fail)
          (refine hQ _ _ _ _ (by first | exact .inr rfl | exact .inl rfl) (by simp; exact .r) (by simp; exact .r) ?_)
          exact (Fin.drop (by simp; exact .r) (by simp)).trans Fin.tupNil
        · generalize varsE out = w at q7 hF
          have hne : out.map varAV ≠ [] := by simpa using ho
          rw [orow_ne hne, ohp_ne hne]
          by_cases hw : w = 0
          · subst hw
            have hF : R = (out, 0) := hF
            rw [hF] at hQ
            repeat' (first
    | (with_reducible refine run_n ?_; with_reducible first | refine hK _ _ (by simp) ?_ | refine hK _ _ ?_; clear hK K)
    | (with_reducible first | refine awp_seq ?_ | refine then_n ?_ | refine then_r ?_ | refine then_e ?_ | refine awp_skip ?_ | refine awp_label ?_ | refine awp_ret ?_ | refine awp_exit ?_ | refine awp_block ?_ | refine awp_scope ?_ | refine in_n ?_ | refine in_r ?_ | refine in_e ?_ | refine in_ne (by decide) ?_ | refine ng_n ?_ | refine ng_r ?_ | refine ng_e ?_)
    | (with_reducible refine awp_regT (by kernel_rfl) ?_; intro K hK)
    | (with_reducible refine a_cond (ht := ?_) (hf := ?_) <;> intro hb <;> (try simp at hb) <;> (try contradiction) <;> (try subst hb) <;> (try omega))
    | (with_reducible first | refine a_move (hr := ?_) | refine a_assign (hr := ?_) | refine a_load (hr := ?_) | refine a_fieldAddr (hr := ?_) | refine a_bin (hr := ?_) | refine a_lenS (hr := ?_) | refine a_lenR (hr := ?_) | refine a_extract (hr := ?_) | refine a_store (hr := ?_) | refine a_alloc (hr := ?_) | refine a_neB (hr := ?_) | refine a_conv (hr := ?_) | refine a_bytesStr (hr := ?_) | refine a_strBytes (hr := ?_) | refine a_sliceArr (hr := ?_) | refine a_neS (hr := ?_) | refine a_sliceS (hr := ?_) | refine a_sliceR (hr := ?_) | refine a_build (hr := ?_) | refine a_buildSlice (hr := ?_) | refine a_append (hr := ?_) | refine a_append0 (hr := ?_) | refine a_appendX (hr := ?_) | refine a_callP (p := 61) (hcall := q6) (hr := ?_) | refine a_callF (hcall := q7) (hr := ?_))
    | fail)
            (refine hQ _ _ _ _ (by first | exact .inr rfl | exact .inl rfl) (by simp; exact .r) (by simp; exact .r) ?_)
            exact Fin.trans (Fin.frzR (r' := .tup [.sl 4 (out.map varAV), .raw (.int .i64 0)]) (by simp; exact .r) (by simp [List.take_of_length_le]; exact .r) (by simp; exact .r) (by simp)) (Fin.refl _ _)
          · rw [outR_n _ _ hw] at hF
            rw [hF] at hQ
            repeat' (first
    | (with_reducible refine run_n ?_; with_reducible first | refine hK _ _ (by simp) ?_ | refine hK _ _ ?_; clear hK K)
    | (with_reducible first | refine awp_seq ?_ | refine then_n ?_ | refine then_r ?_ | refine then_e ?_ | refine awp_skip ?_ | refine awp_label ?_ | refine awp_ret ?_ | refine awp_exit ?_ | refine awp_block ?_ | refine awp_scope ?_ | refine in_n ?_ | refine in_r ?_ | refine in_e ?_ | refine in_ne (by decide) ?_ | refine ng_n ?_ | refine ng_r ?_ | refine ng_e ?_)
    | (with_reducible refine awp_regT (by kernel_rfl) ?_; intro K hK)
    | (with_reducible refine a_cond (ht := ?_) (hf := ?_) <;> intro hb <;> (try simp at hb) <;> (try contradiction) <;> (try subst hb) <;> (try omega))
    | (with_reducible first | refine a_move (hr := ?_) | refine a_assign (hr := ?_) | refine a_load (hr := ?_) | refine a_fieldAddr (hr := ?_) | refine a_bin (hr := ?_) | refine a_lenS (hr := ?_) | refine a_lenR (hr := ?_) | refine a_extract (hr := ?_) | refine a_store (hr := ?_) | refine a_alloc (hr := ?_) | refine a_neB (hr := ?_) | refine a_conv (hr := ?_) | refine a_bytesStr (hr := ?_) | refine a_strBytes (hr := ?_) | refine a_sliceArr (hr := ?_) | refine a_neS (hr := ?_) | refine a_sliceS (hr := ?_) | refine a_sliceR (hr := ?_) | refine a_build (hr := ?_) | refine a_buildSlice (hr := ?_) | refine a_append (hr := ?_) | refine a_append0 (hr := ?_) | refine a_appendX (hr := ?_) | refine a_callP (p := 61) (hcall := q6) (hr := ?_) | refine a_callF (hcall := q7) (hr := ?_))
    | fail)
            (refine hQ _ _ _ _ (by first | exact .inr rfl | exact .inl rfl) (by simp; exact .r) (by simp; exact .r) ?_)
            exact (Fin.drop (by simp; exact .r) (by simp)).trans Fin.tupNil
      · have hF : R = ([], q) := by rw [hF]; unfold endV; rw [if_pos hq, outR_n _ _ hq]
        rw [hF] at hQ
        repeat' (first
    | (with_reducible refine run_n ?_; with_reducible first | refine hK _ _ (by simp) ?_ | refine hK _ _ ?_; clear hK K)
    | (with_reducible first | refine awp_seq ?_ | refine then_n ?_ | refine then_r ?_ | refine then_e ?_ | refine awp_skip ?_ | refine awp_label ?_ | refine awp_ret ?_ | refine awp_exit ?_ | refine awp_block ?_ | refine awp_scope ?_ | refine in_n ?_ | refine in_r ?_ | refine in_e ?_ | refine in_ne (by decide) ?_ | refine ng_n ?_ | refine ng_r ?_ | refine ng_e ?_)
    | (with_reducible refine awp_regT (by kernel_rfl) ?_; intro K hK)
    | (with_reducible refine a_cond (ht := ?_) (hf := ?_) <;> intro hb <;> (try simp at hb) <;> (try contradiction) <;> (try subst hb) <;> (try omega))
    | (with_reducible first | refine a_move (hr := ?_) | refine a_assign (hr := ?_) | refine a_load (hr := ?_) | refine a_fieldAddr (hr := ?_) | refine a_bin (hr := ?_) | refine a_lenS (hr := ?_) | refine a_lenR (hr := ?_) | refine a_extract (hr := ?_) | refine a_store (hr := ?_) | refine a_alloc (hr := ?_) | refine a_neB (hr := ?_) | refine a_conv (hr := ?_) | refine a_bytesStr (hr := ?_) | refine a_strBytes (hr := ?_) | refine a_sliceArr (hr := ?_) | refine a_neS (hr := ?_) | refine a_sliceS (hr := ?_) | refine a_sliceR (hr := ?_) | refine a_build (hr := ?_) | refine a_buildSlice (hr := ?_) | refine a_append (hr := ?_) | refine a_append0 (hr := ?_) | refine a_appendX (hr := ?_) | refine a_callP (p := 61) (hcall := q6) (hr := ?_))
    | fail)
        (refine hQ _ _ _ _ (by first | exact .inr rfl | exact .inl rfl) (by simp; exact .r) (by simp; exact .r) ?_)
        exact (Fin.drop (by simp; exact .r) (by simp)).trans Fin.tupNil
structure TwI (n : Nat) (T : Int × RSt × List VarV) (i : Nat) (m : List Int) (e : Int) (out : List VarV) : Prop where
  isB : IsB m
  le : m.length ≤ 1000
  iN : i ≤ n
  eq : tvL (n - i) (m, e) out = T
  ol : out.length ≤ i
  nm : ∀ x ∈ out, x.n.size < 9223372036854775808
theorem c_rTakeVars (l : List Int) (hB : IsB l) (hl : l.length ≤ 1000) : CallD Try.prog 41 [.sl 1 (u8s l)] noHeap (.tup [.sl 4 ((varsR l).1.map varAV), .raw (.int .i64 (varsR l).2)]) noHeap := by
  have k0 := c_RfRead l (by omega)
  have k1 := y_U (l := l) 0 8 hB (by omega)
  have w1 := r_U hB 0 (most := 8) (by omega)
  have b1 := isB_sU (e := 0) (most := 8) hB
  have n1 := ln_sU (e := 0) (most := 8) hl
  simp only [varsR]
  generalize sU 8 (l, 0) = u at k1 w1 b1 n1 ⊢
  obtain ⟨n, m1, e1⟩ := u
  simp only at k1 w1 b1 n1 ⊢
  obtain ⟨N, hN⟩ : ∃ N : Nat, n = N := ⟨n.toNat, by omega⟩
  subst hN
  rw [Int.toNat_natCast]
  obtain ⟨T, hT⟩ : ∃ T, tvL N (m1, e1) [] = T := ⟨_, rfl⟩
  rw [hT]
  obtain ⟨R, hR⟩ : ∃ R, varsF T = R := ⟨_, rfl⟩
  rw [hR]
  have start : TwI N T 0 m1 e1 [] := ⟨b1, n1, Nat.zero_le _, hT, Nat.le_refl _, by simp⟩
  clear b1 n1 hT
  refine calls_go (nt := 71) (rs := [.tmp 2, .tmp 3]) Try.func41 rfl rfl rfl (by simp) (by intro id h; simp at h <;> omega) ?_; intro Q hQ hW
  repeat' (first
    | (with_reducible refine run_n ?_; with_reducible first | refine hK _ _ (by simp) ?_ | refine hK _ _ ?_; clear hK K)
    | (with_reducible first | refine awp_seq ?_ | refine then_n ?_ | refine then_r ?_ | refine then_e ?_ | refine awp_skip ?_ | refine awp_label ?_ | refine awp_ret ?_ | refine awp_exit ?_ | refine awp_block ?_ | refine awp_scope ?_ | refine in_n ?_ | refine in_r ?_ | refine in_e ?_ | refine in_ne (by decide) ?_ | refine ng_n ?_ | refine ng_r ?_ | refine ng_e ?_)
    | (with_reducible refine awp_regT (by kernel_rfl) ?_; intro K hK)
    | (with_reducible refine awp_regAM (id := 8) [] mixed (by kernel_rfl) (by kernel_rfl) ?_; intro K hK)
    | (with_reducible refine a_cond (ht := ?_) (hf := ?_) <;> intro hb <;> (try simp at hb) <;> (try contradiction) <;> (try subst hb) <;> (try omega))
    | (with_reducible first | refine a_move (hr := ?_) | refine a_assign (hr := ?_) | refine a_load (hr := ?_) | refine a_fieldAddr (hr := ?_) | refine a_nilCheck (hr := ?_) | refine a_bin (hr := ?_) | refine a_extract (hr := ?_) | refine a_store (hr := ?_) | refine a_alloc (hr := ?_) | refine a_neB (hr := ?_) | refine a_sliceArr (hr := ?_) | refine a_neS (hr := ?_) | refine a_sliceS (hr := ?_) | refine a_sliceR (hr := ?_) | refine a_build (hr := ?_) | refine a_buildSlice (hr := ?_) | refine a_append (hr := ?_) | refine a_append0 (hr := ?_) | refine a_appendX (hr := ?_) | refine a_callB (hcall := k0) (hr := ?_) | refine a_callP (p := 14) (hcall := k1) (hr := ?_))
    | fail)
  refine awp_inv (α := Nat × List Int × Int × List VarV) (fun s => [(4, .ptr 14 0), (6, orow 60 4 (s.2.2.2.map varAV)), (17, .raw (.int .u64 N)), (18, .raw (.int .u64 s.1))]) (fun s => ohp 60 4 (s.2.2.2.map varAV) (hpL [(14, .box (rfAV s.2.1 s.2.2.1))])) (fun s => TwI N T s.1 s.2.1 s.2.2.1 s.2.2.2) (fun s => N - s.1) (0, m1, e1, []) start (weak_o (by repeat' (first | refine sub_ohp (by first | (simp; done) | (intro hne; simp at hne; simp [hne])) (by simp) ?_ | exact sub_hpL (by simp))) (by simp) (by simp <;> omega)) ?_
  rintro ⟨i, m, e, out⟩ ⟨g2, g4, g5, g6, g7, g8⟩
  simp only at g2 g4 g5 g6 g7 g8 ⊢
  rcases Nat.lt_or_ge i N with hlt | hge
  · obtain ⟨k, hk⟩ : ∃ k, N - i = k + 1 := ⟨N - i - 1, by omega⟩
    rw [hk] at g6
    simp only [tvL] at g6
    have q1 := y_T (l := m) e 16 g2 (by omega) (by omega)
    have z1 := r_T m e 16
    have b2 := isB_sT (e := e) (most := 16) g2
    have n2 := ln_sT (e := e) (most := 16) g4
    generalize sT 16 (m, e) = r at q1 z1 b2 n2 g6
    obtain ⟨v, m2, e2⟩ := r
    simp only at q1 z1 b2 n2 g6
    by_cases he : e2 = 0
    · subst he
      simp only [ne_eq, not_true_eq_false, if_false] at g6
      have q4 := c_rTake m2 b2 (by omega)
      have z4 := takeV_le b2
      generalize takeV m2 = t at q4 z4 g6
      obtain ⟨⟨vk, vn, vs⟩, kk, q⟩ := t
      simp only at q4 z4 g6
      by_cases hq : q = 0
      · subst hq
        simp only [ne_eq, not_true_eq_false, if_false] at g6
        obtain ⟨KK, hk0⟩ : ∃ KK : Nat, kk = KK := ⟨kk.toNat, by omega⟩
        subst hk0
        rw [Int.toNat_natCast] at g6
        repeat' (first
    | (with_reducible refine run_n ?_; with_reducible first | refine hK _ _ (by simp) ?_ | refine hK _ _ ?_; clear hK K)
    | (with_reducible first | refine awp_seq ?_ | refine then_n ?_ | refine then_r ?_ | refine then_e ?_ | refine awp_skip ?_ | refine awp_label ?_ | refine awp_ret ?_ | refine awp_exit ?_ | refine awp_block ?_ | refine awp_scope ?_ | refine in_n ?_ | refine in_r ?_ | refine in_e ?_ | refine in_ne (by decide) ?_ | refine ng_n ?_ | refine ng_r ?_ | refine ng_e ?_)
    | (with_reducible refine awp_regT (by kernel_rfl) ?_; intro K hK)
    | (with_reducible refine awp_regAM (id := 8) [] mixed (by kernel_rfl) (by kernel_rfl) ?_; intro K hK)
    | (with_reducible refine a_cond (ht := ?_) (hf := ?_) <;> intro hb <;> (try simp at hb) <;> (try contradiction) <;> (try subst hb) <;> (try omega))
    | (with_reducible first | refine a_move (hr := ?_) | refine a_assign (hr := ?_) | refine a_load (hr := ?_) | refine a_fieldAddr (hr := ?_) | refine a_nilCheck (hr := ?_) | refine a_bin (hr := ?_) | refine a_extract (hr := ?_) | refine a_store (hr := ?_) | refine a_alloc (hr := ?_) | refine a_neB (hr := ?_) | refine a_sliceArr (hr := ?_) | refine a_neS (hr := ?_) | refine a_sliceS (hr := ?_) | refine a_sliceR (hr := ?_) | refine a_build (hr := ?_) | refine a_buildSlice (hr := ?_) | refine a_append (hr := ?_) | refine a_append0 (hr := ?_) | refine a_appendX (hr := ?_) | refine a_callP (p := 14) (hcall := q1) (hr := ?_) | refine a_callF (hcall := q4) (hr := ?_))
    | fail)
        exact ⟨(i + 1, m2.drop KK, 0, out ++ [⟨v, vk, vn, vs⟩]), Nat.sub_lt_sub_left hlt (Nat.lt_succ_self i), ⟨isB_drop b2 KK, by simp only [List.length_drop]; omega, hlt, by rw [show N - (i + 1) = k by omega]; exact g6, by simp; omega, by simp only [List.mem_append, List.mem_singleton]; rintro x (hx | rfl); exact g8 x hx; simp only; omega⟩, weak_or 60 58 (by decide) (by decide) (by repeat' (first | refine sub_ohp (by first | (simp; done) | (intro hne; simp at hne; simp [hne])) (by simp) ?_ | exact sub_hpL (by simp))) (by simp) (by simp <;> omega)⟩
      · rw [if_pos hq] at g6
        have hF : R = ([], q) := by rw [← hR, ← g6]; simp only [varsF]; rw [if_pos hq]
        rw [hF] at hQ
        repeat' (first
    | (with_reducible refine run_n ?_; with_reducible first | refine hK _ _ (by simp) ?_ | refine hK _ _ ?_; clear hK K)
    | (with_reducible first | refine awp_seq ?_ | refine then_n ?_ | refine then_r ?_ | refine then_e ?_ | refine awp_skip ?_ | refine awp_label ?_ | refine awp_ret ?_ | refine awp_exit ?_ | refine awp_block ?_ | refine awp_scope ?_ | refine in_n ?_ | refine in_r ?_ | refine in_e ?_ | refine in_ne (by decide) ?_ | refine ng_n ?_ | refine ng_r ?_ | refine ng_e ?_)
    | (with_reducible refine awp_regT (by kernel_rfl) ?_; intro K hK)
    | (with_reducible refine awp_regAM (id := 8) [] mixed (by kernel_rfl) (by kernel_rfl) ?_; intro K hK)
    | (with_reducible refine a_cond (ht := ?_) (hf := ?_) <;> intro hb <;> (try simp at hb) <;> (try contradiction) <;> (try subst hb) <;> (try omega))
    | (with_reducible first | refine a_move (hr := ?_) | refine a_assign (hr := ?_) | refine a_load (hr := ?_) | refine a_fieldAddr (hr := ?_) | refine a_nilCheck (hr := ?_) | refine a_bin (hr := ?_) | refine a_extract (hr := ?_) | refine a_store (hr := ?_) | refine a_alloc (hr := ?_) | refine a_neB (hr := ?_) | refine a_sliceArr (hr := ?_) | refine a_neS (hr := ?_) | refine a_sliceS (hr := ?_) | refine a_sliceR (hr := ?_) | refine a_build (hr := ?_) | refine a_buildSlice (hr := ?_) | refine a_append (hr := ?_) | refine a_append0 (hr := ?_) | refine a_appendX (hr := ?_) | refine a_callP (p := 14) (hcall := q1) (hr := ?_) | refine a_callF (hcall := q4) (hr := ?_))
    | fail)
        (refine hQ _ _ _ _ (by first | exact .inr rfl | exact .inl rfl) (by simp; exact .r) (by simp; exact .r) ?_)
        exact (Fin.drop (by simp; exact .r) (by simp)).trans Fin.tupNil
    · rw [if_pos he] at g6
      have hF : R = ([], e2) := by rw [← hR, ← g6]; simp only [varsF]; rw [if_pos he]
      rw [hF] at hQ
      repeat' (first
    | (with_reducible refine run_n ?_; with_reducible first | refine hK _ _ (by simp) ?_ | refine hK _ _ ?_; clear hK K)
    | (with_reducible first | refine awp_seq ?_ | refine then_n ?_ | refine then_r ?_ | refine then_e ?_ | refine awp_skip ?_ | refine awp_label ?_ | refine awp_ret ?_ | refine awp_exit ?_ | refine awp_block ?_ | refine awp_scope ?_ | refine in_n ?_ | refine in_r ?_ | refine in_e ?_ | refine in_ne (by decide) ?_ | refine ng_n ?_ | refine ng_r ?_ | refine ng_e ?_)
    | (with_reducible refine awp_regT (by kernel_rfl) ?_; intro K hK)
    | (with_reducible refine awp_regAM (id := 8) [] mixed (by kernel_rfl) (by kernel_rfl) ?_; intro K hK)
    | (with_reducible refine a_cond (ht := ?_) (hf := ?_) <;> intro hb <;> (try simp at hb) <;> (try contradiction) <;> (try subst hb) <;> (try omega))
    | (with_reducible first | refine a_move (hr := ?_) | refine a_assign (hr := ?_) | refine a_load (hr := ?_) | refine a_fieldAddr (hr := ?_) | refine a_nilCheck (hr := ?_) | refine a_bin (hr := ?_) | refine a_extract (hr := ?_) | refine a_store (hr := ?_) | refine a_alloc (hr := ?_) | refine a_neB (hr := ?_) | refine a_sliceArr (hr := ?_) | refine a_neS (hr := ?_) | refine a_sliceS (hr := ?_) | refine a_sliceR (hr := ?_) | refine a_build (hr := ?_) | refine a_buildSlice (hr := ?_) | refine a_append (hr := ?_) | refine a_append0 (hr := ?_) | refine a_appendX (hr := ?_) | refine a_callP (p := 14) (hcall := q1) (hr := ?_))
    | fail)
      (refine hQ _ _ _ _ (by first | exact .inr rfl | exact .inl rfl) (by simp; exact .r) (by simp; exact .r) ?_)
      exact (Fin.drop (by simp; exact .r) (by simp)).trans Fin.tupNil
  · obtain rfl : i = N := by omega
    rw [Nat.sub_self] at g6
    simp only [tvL] at g6
    have hF : R = outR [] out (endV (endE m e) out) := by rw [← hR, ← g6]; rfl
    have q6 := c_RfEnd m e (by omega)
    generalize endE m e = q at q6 hF
    by_cases hq : q = 0
    · subst hq
      have hF : R = outR [] out (varsE out) := hF
      have q7 := c_rVars out (by omega) g8
      by_cases ho : out = []
      · subst ho
        have hF : R = ([], 0) := hF
        have q8 : CallD Try.prog 73 [.raw (.slice none 0 0)] noHeap (.raw (.int .i64 0)) noHeap := CallD.nil1 q7
        rw [hF] at hQ
        repeat' (first
    | (with_reducible refine run_n ?_; with_reducible first | refine hK _ _ (by simp) ?_ | refine hK _ _ ?_; clear hK K)
    | (with_reducible first | refine awp_seq ?_ | refine then_n ?_ | refine then_r ?_ | refine then_e ?_ | refine awp_skip ?_ | refine awp_label ?_ | refine awp_ret ?_ | refine awp_exit ?_ | refine awp_block ?_ | refine awp_scope ?_ | refine in_n ?_ | refine in_r ?_ | refine in_e ?_ | refine in_ne (by decide) ?_ | refine ng_n ?_ | refine ng_r ?_ | refine ng_e ?_)
    | (with_reducible refine awp_regT (by kernel_rfl) ?_; intro K hK)
    | (with_reducible refine awp_regAM (id := 8) [] mixed (by kernel_rfl) (by kernel_rfl) ?_; intro K hK)
    | (with_reducible refine a_cond (ht := ?_) (hf := ?_) <;> intro hb <;> (try simp at hb) <;> (try contradiction) <;> (try subst hb) <;> (try omega))
    | (with_reducible first | refine a_move (hr := ?_) | refine a_assign (hr := ?_) | refine a_load (hr := ?_) | refine a_fieldAddr (hr := ?_) | refine a_nilCheck (hr := ?_) | refine a_bin (hr := ?_) | refine a_extract (hr := ?_) | refine a_store (hr := ?_) | refine a_alloc (hr := ?_) | refine a_neB (hr := ?_) | refine a_sliceArr (hr := ?_) | refine a_neS (hr := ?_) | refine a_sliceS (hr := ?_) | refine a_sliceR (hr := ?_) | refine a_build (hr := ?_) | refine a_buildSlice (hr := ?_) | refine a_append (hr := ?_) | refine a_append0 (hr := ?_) | refine a_appendX (hr := ?_) | refine a_callP (p := 14) (hcall := q6) (hr := ?_) | refine a_callF (hcall := q8) (hr := ?_))
    | fail)
        (refine hQ _ _ _ _ (by first | exact .inr rfl | exact .inl rfl) (by simp; exact .r) (by simp; exact .r) ?_)
        exact (Fin.drop (by simp; exact .r) (by simp)).trans Fin.tupNil
      · generalize varsE out = w at q7 hF
        have hne : out.map varAV ≠ [] := by simpa using ho
        rw [orow_ne hne, ohp_ne hne]
        by_cases hw : w = 0
        · subst hw
          have hF : R = (out, 0) := hF
          rw [hF] at hQ
          repeat' (first
    | (with_reducible refine run_n ?_; with_reducible first | refine hK _ _ (by simp) ?_ | refine hK _ _ ?_; clear hK K)
    | (with_reducible first | refine awp_seq ?_ | refine then_n ?_ | refine then_r ?_ | refine then_e ?_ | refine awp_skip ?_ | refine awp_label ?_ | refine awp_ret ?_ | refine awp_exit ?_ | refine awp_block ?_ | refine awp_scope ?_ | refine in_n ?_ | refine in_r ?_ | refine in_e ?_ | refine in_ne (by decide) ?_ | refine ng_n ?_ | refine ng_r ?_ | refine ng_e ?_)
    | (with_reducible refine awp_regT (by kernel_rfl) ?_; intro K hK)
    | (with_reducible refine awp_regAM (id := 8) [] mixed (by kernel_rfl) (by kernel_rfl) ?_; intro K hK)
    | (with_reducible refine a_cond (ht := ?_) (hf := ?_) <;> intro hb <;> (try simp at hb) <;> (try contradiction) <;> (try subst hb) <;> (try omega))
    | (with_reducible first | refine a_move (hr := ?_) | refine a_assign (hr := ?_) | refine a_load (hr := ?_) | refine a_fieldAddr (hr := ?_) | refine a_nilCheck (hr := ?_) | refine a_bin (hr := ?_) | refine a_extract (hr := ?_) | refine a_store (hr := ?_) | refine a_alloc (hr := ?_) | refine a_neB (hr := ?_) | refine a_sliceArr (hr := ?_) | refine a_neS (hr := ?_) | refine a_sliceS (hr := ?_) | refine a_sliceR (hr := ?_) | refine a_build (hr := ?_) | refine a_buildSlice (hr := ?_) | refine a_append (hr := ?_) | refine a_append0 (hr := ?_) | refine a_appendX (hr := ?_) | refine a_callP (p := 14) (hcall := q6) (hr := ?_) | refine a_callF (hcall := q7) (hr := ?_))
    | fail)
          (refine hQ _ _ _ _ (by first | exact .inr rfl | exact .inl rfl) (by simp; exact .r) (by simp; exact .r) ?_)
          exact Fin.trans (Fin.frzR (r' := .tup [.sl 4 (out.map varAV), .raw (.int .i64 0)]) (by simp; exact .r) (by simp [List.take_of_length_le]; exact .r) (by simp; exact .r) (by simp)) (Fin.refl _ _)
        · rw [outR_n _ _ hw] at hF
          rw [hF] at hQ
          repeat' (first
    | (with_reducible refine run_n ?_; with_reducible first | refine hK _ _ (by simp) ?_ | refine hK _ _ ?_; clear hK K)
    | (with_reducible first | refine awp_seq ?_ | refine then_n ?_ | refine then_r ?_ | refine then_e ?_ | refine awp_skip ?_ | refine awp_label ?_ | refine awp_ret ?_ | refine awp_exit ?_ | refine awp_block ?_ | refine awp_scope ?_ | refine in_n ?_ | refine in_r ?_ | refine in_e ?_ | refine in_ne (by decide) ?_ | refine ng_n ?_ | refine ng_r ?_ | refine ng_e ?_)
    | (with_reducible refine awp_regT (by kernel_rfl) ?_; intro K hK)
    | (with_reducible refine awp_regAM (id := 8) [] mixed (by kernel_rfl) (by kernel_rfl) ?_; intro K hK)
    | (with_reducible refine a_cond (ht := ?_) (hf := ?_) <;> intro hb <;> (try simp at hb) <;> (try contradiction) <;> (try subst hb) <;> (try omega))
    | (with_reducible first | refine a_move (hr := ?_) | refine a_assign (hr := ?_) | refine a_load (hr := ?_) | refine a_fieldAddr (hr := ?_) | refine a_nilCheck (hr := ?_) | refine a_bin (hr := ?_) | refine a_extract (hr := ?_) | refine a_store (hr := ?_) | refine a_alloc (hr := ?_) | refine a_neB (hr := ?_) | refine a_sliceArr (hr := ?_) | refine a_neS (hr := ?_) | refine a_sliceS (hr := ?_) | refine a_sliceR (hr := ?_) | refine a_build (hr := ?_) | refine a_buildSlice (hr := ?_) | refine a_append (hr := ?_) | refine a_append0 (hr := ?_) | refine a_appendX (hr := ?_) | refine a_callP (p := 14) (hcall := q6) (hr := ?_) | refine a_callF (hcall := q7) (hr := ?_))
    | fail)
          (refine hQ _ _ _ _ (by first | exact .inr rfl | exact .inl rfl) (by simp; exact .r) (by simp; exact .r) ?_)
          exact (Fin.drop (by simp; exact .r) (by simp)).trans Fin.tupNil
    · have hF : R = ([], q) := by rw [hF]; unfold endV; rw [if_pos hq, outR_n _ _ hq]
      rw [hF] at hQ
      repeat' (first
    | (with_reducible refine run_n ?_; with_reducible first | refine hK _ _ (by simp) ?_ | refine hK _ _ ?_; clear hK K)
    | (with_reducible first | refine awp_seq ?_ | refine then_n ?_ | refine then_r ?_ | refine then_e ?_ | refine awp_skip ?_ | refine awp_label ?_ | refine awp_ret ?_ | refine awp_exit ?_ | refine awp_block ?_ | refine awp_scope ?_ | refine in_n ?_ | refine in_r ?_ | refine in_e ?_ | refine in_ne (by decide) ?_ | refine ng_n ?_ | refine ng_r ?_ | refine ng_e ?_)
    | (with_reducible refine awp_regT (by kernel_rfl) ?_; intro K hK)
    | (with_reducible refine awp_regAM (id := 8) [] mixed (by kernel_rfl) (by kernel_rfl) ?_; intro K hK)
    | (with_reducible refine a_cond (ht := ?_) (hf := ?_) <;> intro hb <;> (try simp at hb) <;> (try contradiction) <;> (try subst hb) <;> (try omega))
    | (with_reducible first | refine a_move (hr := ?_) | refine a_assign (hr := ?_) | refine a_load (hr := ?_) | refine a_fieldAddr (hr := ?_) | refine a_nilCheck (hr := ?_) | refine a_bin (hr := ?_) | refine a_extract (hr := ?_) | refine a_store (hr := ?_) | refine a_alloc (hr := ?_) | refine a_neB (hr := ?_) | refine a_sliceArr (hr := ?_) | refine a_neS (hr := ?_) | refine a_sliceS (hr := ?_) | refine a_sliceR (hr := ?_) | refine a_build (hr := ?_) | refine a_buildSlice (hr := ?_) | refine a_append (hr := ?_) | refine a_append0 (hr := ?_) | refine a_appendX (hr := ?_) | refine a_callP (p := 14) (hcall := q6) (hr := ?_))
    | fail)
      (refine hQ _ _ _ _ (by first | exact .inr rfl | exact .inl rfl) (by simp; exact .r) (by simp; exact .r) ?_)
      exact (Fin.drop (by simp; exact .r) (by simp)).trans Fin.tupNil
theorem tvL_len : ∀ (n : Nat) (s : RSt) (out : List VarV), (tvL n s out).2.2.length ≤ out.length + n
  | 0, s, out => by simp [tvL]
  | n + 1, s, out => by
    rw [tvL]
    split
    · simp
    · split
      · simp
      · refine Nat.le_trans (tvL_len n _ _) ?_
        simp; omega
theorem varsR_len (l : List Int) : (varsR l).1.length ≤ (sU 8 (l, 0)).1.toNat := by
  unfold varsR varsF
  split
  · simp
  · unfold outR
    split
    · simp
    · have := tvL_len (sU 8 (l, 0)).1.toNat (sU 8 (l, 0)).2 []
      simpa using this
theorem law_EntityTakes (l : List Int) (hB : IsB l) (hl : l.length ≤ 140737488355328) : CallD Try.prog 9 [.sl 1 (u8s l)] noHeap (.raw (.bool true)) noHeap := by
  have hlv := c_live
  by_cases h1 : (l.length : Int) > 1000
  · refine calls_go (nt := 129) (rs := [.tmp 2]) Try.func9 rfl rfl rfl (by simp) (by intro id h; simp at h <;> omega) ?_; intro Q hQ hW
    repeat' (first
    | (with_reducible refine run_n ?_; with_reducible first | refine hK _ _ (by simp) ?_ | refine hK _ _ ?_; clear hK K)
    | (with_reducible first | refine awp_seq ?_ | refine then_n ?_ | refine then_r ?_ | refine then_e ?_ | refine awp_skip ?_ | refine awp_label ?_ | refine awp_ret ?_ | refine awp_exit ?_ | refine awp_block ?_ | refine awp_scope ?_ | refine in_n ?_ | refine in_r ?_ | refine in_e ?_ | refine in_ne (by decide) ?_ | refine ng_n ?_ | refine ng_r ?_ | refine ng_e ?_)
    | (with_reducible refine awp_regT (by kernel_rfl) ?_; intro K hK)
    | (with_reducible refine a_cond (ht := ?_) (hf := ?_) <;> intro hb <;> (try simp at hb) <;> (try contradiction) <;> (try subst hb) <;> (try omega))
    | (with_reducible first | refine a_move (hr := ?_) | refine a_assign (hr := ?_) | refine a_load (hr := ?_) | refine a_bin (hr := ?_) | refine a_lenS (hr := ?_) | refine a_lenR (hr := ?_) | refine a_extract (hr := ?_) | refine a_pick (hr := ?_) | refine a_un (hr := ?_) | refine a_store (hr := ?_) | refine a_alloc (hr := ?_) | refine a_eqB (hr := ?_) | refine a_eqS (hr := ?_) | refine a_call0 (hcall := hlv) (hr := ?_) | refine a_gT (hr := ?_) | refine a_gF (hr := ?_) | refine a_gU (hr := ?_))
    | (with_reducible refine a_gB (hT := ?_) (hF := ?_) <;> intro hb <;> (try simp at hb) <;> (try contradiction) <;> (try subst hb) <;> (try omega))
    | fail)
    all_goals ((refine hQ _ _ _ _ (by first | exact .inr rfl | exact .inl rfl) (by simp; exact .r) (by simp; exact .r) ?_))
    all_goals (exact Fin.drop (by simp; exact .r) (by simp))
  · have h2 : l.length ≤ 1000 := by omega
    have k1 := c_TakeInst l hB h2
    have k2 := c_rTakeInst l hB h2
    have k3 := c_TakeTok l hB h2
    have k4 := c_rTakeTok l hB h2
    have k5 := c_TakeArm l hB h2
    have k6 := c_rTakeArm l hB h2
    have k7 := c_TakeVars l hB h2
    have k8 := c_rTakeVars l hB h2
    have k9 := c_TakeNum l hB h2
    have k10 := c_rTakeNum l hB h2
    have hvl : (varsR l).1.length ≤ 8 := by have := varsR_len l; have := r_U hB 0 (most := 8) (by omega); omega
    generalize instR (l, 0) = a1 at k1 k2
    obtain ⟨⟨d, v, s, c, x⟩, q1⟩ := a1
    generalize tokR (l, 0) = a2 at k3 k4
    obtain ⟨⟨ta, ts, tf⟩, q2⟩ := a2
    generalize armR l = a3 at k5 k6
    obtain ⟨⟨ak, an, ay, ad⟩, q3⟩ := a3
    generalize varsR l = a4 at k7 k8 hvl
    obtain ⟨vl, q4⟩ := a4
    generalize numR l = a5 at k9 k10
    obtain ⟨nn, q5⟩ := a5
    simp only at k1 k2 k3 k4 k5 k6 k7 k8 k9 k10 hvl
    have k11 := c_SameVars vl vl (by omega) (by omega)
    rw [decide_eq_true rfl] at k11
    refine calls_go (nt := 129) (rs := [.tmp 2]) Try.func9 rfl rfl rfl (by simp) (by intro id h; simp at h <;> omega) ?_; intro Q hQ hW
    repeat' (first
    | (with_reducible refine run_n ?_; with_reducible first | refine hK _ _ (by simp) ?_ | refine hK _ _ ?_; clear hK K)
    | (with_reducible first | refine awp_seq ?_ | refine then_n ?_ | refine then_r ?_ | refine then_e ?_ | refine awp_skip ?_ | refine awp_label ?_ | refine awp_ret ?_ | refine awp_exit ?_ | refine awp_block ?_ | refine awp_scope ?_ | refine in_n ?_ | refine in_r ?_ | refine in_e ?_ | refine in_ne (by decide) ?_ | refine ng_n ?_ | refine ng_r ?_ | refine ng_e ?_)
    | (with_reducible refine awp_regT (by kernel_rfl) ?_; intro K hK)
    | (with_reducible refine a_cond (ht := ?_) (hf := ?_) <;> intro hb <;> (try simp at hb) <;> (try contradiction) <;> (try subst hb) <;> (try omega))
    | (with_reducible first | refine a_move (hr := ?_) | refine a_assign (hr := ?_) | refine a_load (hr := ?_) | refine a_bin (hr := ?_) | refine a_lenS (hr := ?_) | refine a_lenR (hr := ?_) | refine a_extract (hr := ?_) | refine a_pick (hr := ?_) | refine a_un (hr := ?_) | refine a_store (hr := ?_) | refine a_alloc (hr := ?_) | refine a_eqB (hr := ?_) | refine a_eqS (hr := ?_) | refine a_call0 (hcall := hlv) (hr := ?_) | refine a_callF (hcall := k1) (hr := ?_) | refine a_callF (hcall := k2) (hr := ?_) | refine a_callF (hcall := k3) (hr := ?_) | refine a_callF (hcall := k4) (hr := ?_) | refine a_callF (hcall := k5) (hr := ?_) | refine a_callF (hcall := k6) (hr := ?_) | refine a_callF (hcall := k7) (hr := ?_) | refine a_callF (hcall := k8) (hr := ?_) | refine a_callF (hcall := k9) (hr := ?_) | refine a_callF (hcall := k10) (hr := ?_) | refine a_callF (hcall := k11) (hr := ?_) | refine a_gT (hr := ?_) | refine a_gF (hr := ?_) | refine a_gU (hr := ?_))
    | (with_reducible refine a_gB (hT := ?_) (hF := ?_) <;> intro hb <;> (try simp at hb) <;> (try contradiction) <;> (try subst hb) <;> (try omega))
    | fail)
    all_goals ((refine hQ _ _ _ _ (by first | exact .inr rfl | exact .inl rfl) (by simp; exact .r) (by simp; exact .r) ?_))
    all_goals (exact Fin.drop (by simp; exact .r) (by simp))
end Go.Proofs.Ytdbdajmgfajcpaa.Asl
