/- Chapter 15: what keys and Refs are to one another: no Go here. -/
import Derived.Test.YtdbdajmgfajcpaaE4
namespace Go.Proofs.Ytdbdajmgfajcpaa.Asl
open Go Go.RowKit
set_option linter.unusedVariables false
set_option linter.unusedSimpArgs false
set_option maxRecDepth 100000
set_option maxHeartbeats 2000000
theorem pre_app : ∀ (c x y : List Int), (c ++ x).isPrefixOf (c ++ y) = x.isPrefixOf y
  | [], _, _ => rfl
  | a :: c, x, y => by simp [List.isPrefixOf, pre_app c x y]
theorem enc_pre : ∀ (p q X Y : List Int), IsB p → IsB q → (encP p ++ X).isPrefixOf (encP q ++ Y) = (decide (p = q) && X.isPrefixOf Y)
  | [], [], X, Y, _, _ => by simp [encP, List.isPrefixOf]
  | [], d :: q, X, Y, _, hq => by
    by_cases h : d = 0
    · subst h; simp [encP, es1, List.isPrefixOf]
    · have h1 : ¬ 0 = d := fun e => h e.symm
      simp [encP, es1, h, List.isPrefixOf, h1]
  | c :: p, [], X, Y, hp, _ => by
    by_cases h : c = 0
    · subst h; simp [encP, es1, List.isPrefixOf]
    · simp [encP, es1, h, List.isPrefixOf]
  | c :: p, d :: q, X, Y, hp, hq => by
    have ih := enc_pre p q X Y (isB_cons.1 hp).2 (isB_cons.1 hq).2
    have e1 : ∀ (c : Int) (p X : List Int), encP (c :: p) ++ X = es1 c ++ (encP p ++ X) := by intro c p X; simp [encP, List.append_assoc]
    rw [e1, e1]
    by_cases h : c = d
    · subst h; rw [pre_app, ih]; simp
    · have h0 : decide (c :: p = d :: q) = false := by simp [h]
      rw [h0]
      by_cases hc : c = 0
      · subst hc
        have hd : ¬ d = 0 := fun e => h e.symm
        simp [es1, hd, List.isPrefixOf, h]
      · by_cases hd : d = 0
        · subst hd; simp [es1, hc, List.isPrefixOf]
        · simp [es1, hc, hd, List.isPrefixOf, h]
theorem mk_pre : ∀ (a b : List (List Int)), (∀ p ∈ a, IsB p) → (∀ p ∈ b, IsB p) → (a.flatMap encP).isPrefixOf (b.flatMap encP) = a.isPrefixOf b
  | [], b, _, _ => by simp [List.isPrefixOf]
  | p :: a, [], _, _ => by
    obtain ⟨x, l, e⟩ : ∃ x l, (p :: a).flatMap encP = x :: l := by
      cases h : (p :: a).flatMap encP with
      | nil => simp [encP] at h
      | cons x l => exact ⟨x, l, rfl⟩
    rw [e]; rfl
  | p :: a, q :: b, ha, hb => by
    rw [List.flatMap_cons, List.flatMap_cons, enc_pre p q _ _ (ha p List.mem_cons_self) (hb q List.mem_cons_self)]
    rw [mk_pre a b (fun p h => ha p (List.mem_cons_of_mem _ h)) (fun p h => hb p (List.mem_cons_of_mem _ h))]
    simp only [List.isPrefixOf]
    rw [show decide (p = q) = (p == q) from by rw [Bool.eq_iff_iff]; simp]
theorem isB_of_flat : ∀ ps : List (List Int), IsB (ps.flatMap encP) → ∀ p ∈ ps, IsB p := by
  have he : ∀ p : List Int, IsB (encP p) → IsB p := by
    intro p h
    have h1 := (isB_app.1 h).1
    intro b hb
    by_cases h0 : b = 0
    · omega
    · exact h1 b (List.mem_flatMap.2 ⟨b, hb, by unfold es1; rw [if_neg h0]; exact List.mem_cons_self⟩)
  intro ps
  induction ps with
  | nil => intro _ p hp; cases hp
  | cons a ps ih =>
    intro h p hp
    rw [List.flatMap_cons] at h
    have h1 := isB_app.1 h
    rcases List.mem_cons.1 hp with rfl | hp
    · exact he _ h1.1
    · exact ih h1.2 p hp
theorem dg_hv {c : Int} (h : hv c ≠ 16) : dg (hv c) = c := by
  unfold hv at h ⊢
  unfold dg
  repeat' split
  all_goals first | omega | simp_all
theorem digs_inv : ∀ (n : Nat) (l : List Int) (v : Int), l.length = n → n ≤ 16 → digs l 0 = some v → 0 ≤ v ∧ v < 16 ^ n ∧ l = hxd v n := by
  intro n
  induction n with
  | zero =>
    intro l v hl _ h
    have e : l = [] := List.eq_nil_of_length_eq_zero hl
    subst e
    simp [digs] at h; subst h
    exact ⟨by omega, by simp, rfl⟩
  | succ n ih =>
    intro l v hl hn h
    have hne : l ≠ [] := by intro e; subst e; simp at hl
    have e := List.dropLast_concat_getLast hne
    generalize l.dropLast = m at e
    generalize l.getLast hne = c at e
    subst e
    rw [digs_snoc] at h
    simp only [List.length_append, List.length_singleton] at hl
    cases hm : digs m 0 with
    | none => rw [hm] at h; cases h
    | some w =>
      rw [hm, Option.bind_some] at h
      obtain ⟨h0, h1, h2⟩ := ih m w (by omega) (by omega) hm
      by_cases hc : hv c = 16
      · rw [if_pos hc] at h; cases h
      · rw [if_neg hc] at h
        cases h
        have hb := hv_bound c
        have h15 : (16 : Int) ^ n ≤ 16 ^ 15 := by
          have : (16 : Nat) ^ n ≤ 16 ^ 15 := Nat.pow_le_pow_right (by decide) (by omega)
          exact_mod_cast this
        have e15 : (16 : Int) ^ 15 = 1152921504606846976 := by decide
        have hs : stp w (hv c) = 16 * w + hv c := by unfold stp; omega
        rw [hs]
        refine ⟨by omega, by rw [Int.pow_succ]; omega, ?_⟩
        rw [hxd, show (16 * w + hv c) / 16 = w by omega, show (16 * w + hv c) % 16 = hv c by omega, dg_hv hc, ← h2]
theorem digV_inv {s : ByteArray} {v : Int} (h : digV s = (v, 0)) : s = strOfNums (hexs v) ∧ inU v := by
  unfold digV at h
  split at h
  · rename_i h16
    cases hd : digs (bytesOf s) 0 with
    | none => rw [hd] at h; simp [digR] at h
    | some w =>
      rw [hd] at h
      simp [digR] at h
      subst h
      obtain ⟨h0, h1, h2⟩ := digs_inv 16 (bytesOf s) w (by rw [len_bytes]; exact h16) (Nat.le_refl _) hd
      refine ⟨bytes_inj ?_, h0, by have e : (16 : Int) ^ 16 = 18446744073709551616 := by decide
                                   omega⟩
      rw [bytes_of_nums (hexs_isB w), hexs_eq]; exact h2
  · simp at h
/-- A key of which parts are got is their key. -/
theorem parse_key {s : ByteArray} {k : Int} {l : List ByteArray} (h : parseV s = (k, l, 0)) : strOfNums (keyb k l) = s ∧ 0 ≤ k ∧ k < 256 ∧ (keyb k l).length = s.size := by
  unfold parseV at h
  split at h
  · simp at h
  · rename_i h0
    cases hp : pk ((bytesOf s).drop 1) with
    | none => rw [hp] at h; simp [psR] at h
    | some ps =>
      rw [hp] at h
      simp only [psR, Prod.mk.injEq] at h
      obtain ⟨h1, h2, _⟩ := h
      have hf := pk_of _ _ _ (Nat.le_refl _) hp
      have hB := isB_of_flat ps (by rw [← hf]; exact isB_drop (isB_bytes s) 1)
      have hd := drop_byte s 0 (by omega)
      rw [List.drop_zero] at hd
      have hr := byteAt_range s 0
      have hk : keyb k l = bytesOf s := by
        rw [keyb_eq, hd, mkKey]
        congr 1
        · exact h1.symm
        · rw [← h2, List.map_map, hf]
          congr 1
          have : ∀ p ∈ ps, (bytesOf ∘ strOfNums) p = p := fun p hp => bytes_of_nums (hB p hp)
          conv => rhs; rw [← List.map_id ps]
          exact List.map_congr_left this
      rw [hk, nums_of_bytes]
      exact ⟨rfl, by omega, by omega, len_bytes s⟩
/-- Parts are got again of their key. -/
theorem key_parse {k : Int} (hk : 0 ≤ k ∧ k < 256) (l : List ByteArray) : parseV (strOfNums (keyb k l)) = (k, l, 0) := by
  have hB := keyb_isB hk l
  unfold parseV
  rw [if_neg (by rw [size_of_nums]; simp [keyb])]
  have hb : bytesOf (strOfNums (keyb k l)) = keyb k l := bytes_of_nums hB
  have h0 := byteAt_at (strOfNums (keyb k l)) 0
  rw [hb] at h0
  have e1 : byteAt (strOfNums (keyb k l)) 0 = k := by
    rw [show (0 : Int) = ((0 : Nat) : Int) from rfl, h0]; simp [keyb]
  rw [e1, hb, keyb_eq]
  have e2 : List.drop 1 (mkKey k (l.map bytesOf)) = (l.map bytesOf).flatMap encP := rfl
  rw [e2, pk_enc]
  simp only [psR, List.map_map]
  congr 2
  conv => rhs; rw [← List.map_id l]
  exact List.map_congr_left fun p _ => nums_of_bytes p
theorem digV_two {p : ByteArray} (h : (digV p).2 = 0) : strOfNums (hexs (digV p).1) = p ∧ inU (digV p).1 := by
  have := digV_inv (s := p) (v := (digV p).1) (by rw [← h])
  exact ⟨this.1.symm, this.2⟩
theorem inU0 : inU 0 := by unfold inU; omega
theorem setL0 {cs : List Int} {s : ByteArray} {ss : List ByteArray} {r : RefV} : setL (0 :: cs) (s :: ss) r = setL cs ss { r with n := s } := by simp [setL, setP]
theorem setL1 {cs : List Int} {s : ByteArray} {ss : List ByteArray} {r : RefV} : setL (1 :: cs) (s :: ss) r = setL cs ss { r with y := s } := by simp [setL, setP]
theorem setL2 {cs : List Int} {s : ByteArray} {ss : List ByteArray} {r : RefV} : setL (2 :: cs) (s :: ss) r = setL cs ss { r with d := s } := by simp [setL, setP]
theorem setL3 {cs : List Int} {s : ByteArray} {ss : List ByteArray} {r : RefV} : setL (3 :: cs) (s :: ss) r = setL cs ss { r with i := s } := by simp [setL, setP]
theorem setL4 {cs : List Int} {s : ByteArray} {ss : List ByteArray} {r : RefV} : setL (4 :: cs) (s :: ss) r = if (digV s).2 = 0 then setL cs ss { r with t := (digV s).1 } else none := by
  by_cases h : (digV s).2 = 0 <;> simp [setL, setP, h]
theorem setL5 {cs : List Int} {s : ByteArray} {ss : List ByteArray} {r : RefV} : setL (5 :: cs) (s :: ss) r = if (digV s).2 = 0 then setL cs ss { r with o := (digV s).1 } else none := by
  by_cases h : (digV s).2 = 0 <;> simp [setL, setP, h]
theorem setL6 {cs : List Int} {s : ByteArray} {ss : List ByteArray} {r : RefV} : setL (6 :: cs) (s :: ss) r = if (digV s).2 = 0 then setL cs ss { r with a := (digV s).1 } else none := by
  by_cases h : (digV s).2 = 0 <;> simp [setL, setP, h]
theorem setLn {r : RefV} : setL [] [] r = some r := rfl
theorem setL_texts {kk : Int} {l : List ByteArray} {x : RefV} (hl : (lay kk).1.size = l.length) (h : setL (codes kk) l (.of kk) = some x) : x.k = kk ∧ textsP x = l ∧ x = bareP x ∧ x.ok := by
  have hz := inU0
  rcases lay_cases kk with e | e | e | e | e | e | e | e | e | e | e | e | e
  all_goals first
    | subst e
    | (rw [e] at hl
       have hl0 : l = [] := List.eq_nil_of_length_eq_zero hl.symm
       subst hl0
       have e2 : codes kk = [] := by unfold codes; rw [e]; rfl
       rw [e2, setLn] at h
       cases h
       exact ⟨rfl, by unfold textsP; rw [show (RefV.of kk).k = kk from rfl, e2]; rfl, by unfold bareP; rw [show (RefV.of kk).k = kk from rfl, e2]; rfl, hz, hz, hz⟩)
  all_goals (try (rcases l with _ | ⟨p0, l⟩ <;> first | (simp [lay] at hl; done) | skip))
  all_goals (try (rcases l with _ | ⟨p1, l⟩ <;> first | (simp [lay] at hl; done) | skip))
  all_goals (try (rcases l with _ | ⟨p2, l⟩ <;> first | (simp [lay] at hl; done) | skip))
  all_goals (try (rcases l with _ | ⟨p3, l⟩ <;> first | (simp [lay] at hl; done) | skip))
  all_goals (try (rcases l with _ | ⟨p4, l⟩ <;> first | (simp [lay] at hl; done) | skip))
  all_goals (try (rcases l with _ | ⟨p5, l⟩ <;> first | (simp [lay] at hl; done) | skip))
  all_goals (simp [codes, lay, bytesOf, code, RefV.of, setL0, setL1, setL2, setL3, setL4, setL5, setL6, setLn] at h)
  all_goals (try (obtain ⟨h0, h1, h2, h⟩ := h))
  all_goals (try (obtain ⟨h0, h1, h⟩ := h))
  all_goals (try (obtain ⟨h0, h⟩ := h))
  all_goals (try (have d0 := digV_two h0))
  all_goals (try (have d1 := digV_two h1))
  all_goals (try (have d2 := digV_two h2))
  all_goals (try subst h)
  all_goals (refine ⟨rfl, ?_, ?_, ?_⟩)
  all_goals first
    | (simp [textsP, codes, lay, bytesOf, code, getP, *]; done)
    | (simp [bareP, codes, lay, bytesOf, code, getP, setP, RefV.of, *]; done)
    | (unfold RefV.ok; simp [*]; done)
theorem setP_get {r x : RefV} (hr : r.ok) {c : Int} (hc : 0 ≤ c ∧ c ≤ 6) : (setP x c (getP r c)).2 = true := by
  obtain ⟨h1, h2, h3⟩ := hr
  have d1 := digV_hexs h1
  have d2 := digV_hexs h2
  have d3 := digV_hexs h3
  have : c = 0 ∨ c = 1 ∨ c = 2 ∨ c = 3 ∨ c = 4 ∨ c = 5 ∨ c = 6 := by omega
  rcases this with e | e | e | e | e | e | e <;> subst e <;> simp [setP, getP, d1, d2, d3]
theorem setL_back {r : RefV} (hr : r.ok) : ∀ (cs : List Int) (x : RefV), (∀ c ∈ cs, 0 ≤ c ∧ c ≤ 6) → setL cs (cs.map (getP r)) x = some (cs.foldl (fun x c => (setP x c (getP r c)).1) x)
  | [], x, _ => rfl
  | c :: cs, x, h => by
    simp only [List.map_cons, setL, List.foldl_cons]
    rw [if_pos (setP_get hr (h c List.mem_cons_self))]
    exact setL_back hr cs _ fun d hd => h d (List.mem_cons_of_mem _ hd)
/-- What is got of a key is a Ref whose key it is. -/
theorem split_key {s : ByteArray} {x : RefV} (h : splitV s = (x, 0)) : keyV x = (s, 0) ∧ x.ok ∧ 0 ≤ x.k ∧ x.k < 256 ∧ ∀ p ∈ textsP x, p.size ≤ s.size := by
  unfold splitV at h
  generalize hp : parseV s = pv at h
  obtain ⟨kk, l, e⟩ := pv
  simp only at h
  split at h
  · rename_i he; simp only [Prod.mk.injEq] at h; exact absurd h.2 he
  · rename_i he
    have he0 : e = 0 := by simpa using he
    subst he0
    split at h
    · simp at h
    · rename_i hl
      simp only [ne_eq, not_or, Bool.not_eq_false, Decidable.not_not] at hl
      cases hs : setL (codes kk) l (.of kk) with
      | none => rw [hs] at h; simp at h
      | some y =>
        rw [hs] at h
        simp only [Prod.mk.injEq, and_true] at h
        subst h
        obtain ⟨h1, h2, h3, h4⟩ := setL_texts hl.2 hs
        obtain ⟨k1, k2, k3, k4⟩ := parse_key hp
        refine ⟨?_, h4, by omega, by omega, fun p hpp => ?_⟩
        · unfold keyV
          rw [h1, if_neg (by simp [hl.1]), if_pos h3, h2, k1]
        · rw [h2] at hpp
          have := (psR_few (byteAt s 0) ((bytesOf s).drop 1)).2 p (by
            have e1 : parseV s = psR (byteAt s 0) (pk ((bytesOf s).drop 1)) := by
              unfold parseV
              rw [if_neg]
              intro e0
              unfold parseV at hp
              rw [if_pos e0] at hp
              simp at hp
            rw [← e1, hp]; exact hpp)
          rw [List.length_drop, len_bytes] at this
          omega
theorem key_split {r : RefV} {a : ByteArray} (hr : r.ok) (hk : 0 ≤ r.k ∧ r.k < 256) (h : keyV r = (a, 0)) : splitV a = (r, 0) := by
  unfold keyV at h
  split at h
  · simp at h
  · rename_i hl
    split at h
    · rename_i hb
      simp only [Prod.mk.injEq, and_true] at h
      subst h
      unfold splitV
      rw [key_parse hk]
      simp only
      have hl2 : (lay r.k).2 = true := by simpa using hl
      have hlen : (lay r.k).1.size = (textsP r).length := by simp [textsP, codes, len_bytes]
      rw [if_neg (by simp), if_neg (by simp [hl2, hlen])]
      have : setL (codes r.k) (textsP r) (.of r.k) = some (bareP r) := setL_back hr _ _ (codes_range r.k)
      rw [this, ← hb]
    · simp at h
end Go.Proofs.Ytdbdajmgfajcpaa.Asl
