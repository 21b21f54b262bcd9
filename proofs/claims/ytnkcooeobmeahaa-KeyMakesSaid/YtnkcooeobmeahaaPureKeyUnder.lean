/- The plain law: a key lies under some parts just if it begins with these. -/
import Derived.Test.YtnkcooeobmeahaaZ8
import Derived.Test.YtnkcooeobmeahaaKmake
import Derived.Test.YtnkcooeobmeahaaKafter
import Derived.Test.YtnkcooeobmeahaaKsame
import Derived.Test.YtnkcooeobmeahaaKlive
import Derived.Test.YtnkcooeobmeahaaOk
namespace Go.Proofs.Ytnkcooeobmeahaa.Pure
open Go.RowKit Go.Proofs.Ytnkcooeobmeahaa.Z Go.Proofs.YtnkcooeobmeahaaW.PrintWords Go.Proofs.YtnkcooeobmeahaaW.PrintLast Go.Proofs.YtnkcooeobmeahaaW.PrintMore Go.Proofs.Ytnkcooeobmeahaa.PB Go.Proofs.Ytnkcooeobmeahaa.K3
set_option linter.unusedVariables false
set_option linter.unusedSimpArgs false
theorem pre_app : ∀ (c x y : List Int), (c ++ x).isPrefixOf (c ++ y) = x.isPrefixOf y
  | [], _, _ => rfl
  | a :: c, x, y => by simp [List.isPrefixOf, pre_app c x y]
theorem enc_pre : ∀ (p q X Y : List Int), IsB p → IsB q → (encP p ++ X).isPrefixOf (encP q ++ Y) = (decide (p = q) && X.isPrefixOf Y)
  | [], [], X, Y, _, _ => by simp [encP, List.isPrefixOf]
  | [], d :: q, X, Y, _, hq => by
    by_cases h : d = 0
    · subst h; simp [encP, esc, List.isPrefixOf]
    · have h1 : ¬ 0 = d := fun e => h e.symm
      simp [encP, esc, h, List.isPrefixOf, h1]
  | c :: p, [], X, Y, hp, _ => by
    by_cases h : c = 0
    · subst h; simp [encP, esc, List.isPrefixOf]
    · simp [encP, esc, h, List.isPrefixOf]
  | c :: p, d :: q, X, Y, hp, hq => by
    have ih := enc_pre p q X Y (isB_cons.1 hp).2 (isB_cons.1 hq).2
    have e1 : ∀ (c : Int) (p X : List Int), encP (c :: p) ++ X = esc c ++ (encP p ++ X) := by intro c p X; simp [encP, List.append_assoc]
    rw [e1, e1]
    by_cases h : c = d
    · subst h; rw [pre_app, ih]; simp
    · have h0 : decide (c :: p = d :: q) = false := by simp [h]
      rw [h0]
      by_cases hc : c = 0
      · subst hc
        have hd : ¬ d = 0 := fun e => h e.symm
        simp [esc, hd, List.isPrefixOf, h]
      · by_cases hd : d = 0
        · subst hd; simp [esc, hc, List.isPrefixOf]
        · simp [esc, hc, hd, List.isPrefixOf, h]
theorem mk_pre : ∀ (a b : List (List Int)), (∀ p ∈ a, IsB p) → (∀ p ∈ b, IsB p) → (a.flatMap encP).isPrefixOf (b.flatMap encP) = a.isPrefixOf b
  | [], b, _, _ => by simp [List.isPrefixOf]
  | p :: a, [], _, _ => by
    obtain ⟨x, l, e⟩ : ∃ x l, (p :: a).flatMap encP = x :: l := by
      cases h : (p :: a).flatMap encP with
      | nil => simp [encP] at h
      | cons x l => exact ⟨x, l, rfl⟩
    rw [e]; rfl
  | p :: a, q :: b, ha, hb => by
    rw [List.flatMap_cons, List.flatMap_cons, enc_pre p q _ _ (ha p List.mem_cons_self) (hb q List.mem_cons_self)]
    rw [mk_pre a b (fun p h => ha p (List.mem_cons_of_mem _ h)) (fun p h => hb p (List.mem_cons_of_mem _ h))]
    simp only [List.isPrefixOf]
    rw [show decide (p = q) = (p == q) from by rw [Bool.eq_iff_iff]; simp]
theorem ev_begins (l w : List ByteArray) (hl : l.length ≤ 4611686018427387904) : Ev (fun k => conductorlaw03_begins.f k l w) ((w.map bytesOf).isPrefixOf (l.map bytesOf)) := by
  unfold conductorlaw03_begins.f
  by_cases h : (l.length : Int) ≥ (w.length : Int)
  · simp only [if_pos h]
    simp only [if_pos (show 0 ≤ (w.length : Int) by omega), if_pos (show (w.length : Int) ≤ (l.length : Int) from h)]
    refine ev_eq (Ev.bind (ev_same _ _ (by rw [List.length_take]; omega)) (Ev.now _)) ?_
    rw [Int.toNat_natCast, Bool.eq_iff_iff, decide_eq_true_eq, List.isPrefixOf_iff_prefix, List.prefix_iff_eq_take, List.length_map, ← List.map_take]
    exact ⟨fun e => by rw [e], fun e => (map_bytes_inj e).symm⟩
  · simp only [if_neg h]
    refine ev_eq (Ev.now false) ?_
    symm
    rw [Bool.eq_false_iff]
    intro h2
    have := (List.isPrefixOf_iff_prefix.1 h2).length_le
    rw [List.length_map, List.length_map] at this
    omega
theorem ev_under (kind : Int) (hk : 0 ≤ kind ∧ kind ≤ 255) (ls : List ByteArray) (hs : ∀ s ∈ ls, s.size ≤ 1000000) (hl : ls.length ≤ 1000) :
    Ev (fun k => key_Under.f k kind ls) (strOfNums (mkKey kind (ls.map bytesOf)), strOfNums (after (mkKey kind (ls.map bytesOf)))) := by
  have hA : ∀ p ∈ ls.map bytesOf, IsB p := by intro p hp; obtain ⟨s, _, rfl⟩ := List.mem_map.1 hp; exact isB_bytes s
  unfold key_Under.f
  refine Ev.bind (ev_make kind ls hs (by omega)) ?_
  have hlen : ∀ l : List (List Int), (∀ p ∈ l, p.length ≤ 1000000) → (l.flatMap encP).length ≤ 2000002 * l.length := by
    intro l
    induction l with
    | nil => intro _; simp
    | cons a l ih =>
      intro h
      have h1 := ih (fun s hs => h s (List.mem_cons_of_mem _ hs))
      have h2 := h a List.mem_cons_self
      have h3 := encP_len a
      rw [List.flatMap_cons, List.length_append, List.length_cons]; omega
  have h4 := hlen (ls.map bytesOf) (by intro p hp; obtain ⟨s, h, rfl⟩ := List.mem_map.1 hp; rw [len_bytes]; exact hs s h)
  rw [List.length_map] at h4
  have h5 := ev_after (strOfNums (mkKey kind (ls.map bytesOf))) (by rw [size_of_nums]; simp only [mkKey, List.length_cons]; omega)
  rw [bytes_of_nums (mkKey_isB hk hA)] at h5
  exact Ev.bind h5 (Ev.now _)
theorem KeyUnder : ∀ (x0 : Int) (x1 : List ByteArray) (x2 : List ByteArray), (Lit.int .u8 x0).wf = true → ok22 x1 → ok22 x2 → ∃ k, conductorlaw03_KeyUnder.f k x0 x1 x2 = some true := by
  intro kind a b hk ha hb
  have hk := wf_u8 hk
  have hal : a.length ≤ 4611686018427387904 := by have := ha.2.1; unfold maxLen at this; have := ha.1; omega
  have hbl : b.length ≤ 4611686018427387904 := by have := hb.2.1; unfold maxLen at this; have := hb.1; omega
  apply Ev.rounds
  have live : ∀ c, c = true → Ev (fun k => conductorlaw03_KeyUnder.j0 k kind a b c) true := by
    rintro c rfl
    refine ev_step (fun k => (conductorlaw03_live.f k).bind fun t => some t) (fun k => by simp only [conductorlaw03_KeyUnder.j0]; rw [if_pos trivial]) ?_
    exact Ev.bind ev_live (Ev.now _)
  unfold conductorlaw03_KeyUnder.f
  refine Ev.bind ev_live ?_
  simp only [if_true]
  refine Ev.bind (ev_few a hal) ?_
  by_cases h1 : fewB a = true
  · simp only [if_pos h1]
    refine Ev.bind (ev_few b hbl) ?_
    by_cases h2 : fewB b = true
    · have fa := few_of h1
      have fb := few_of h2
      rw [h2]
      refine ev_step _ (fun k => by simp only [conductorlaw03_KeyUnder.j0, Bool.not_true, if_neg Bool.false_ne_true]; rfl) ?_
      refine Ev.bind (ev_under kind hk a (fun s hs => by have := fa.1 s hs; omega) (by omega)) ?_
      refine Ev.bind (ev_make kind b (fun s hs => by have := fb.1 s hs; omega) (by omega)) ?_
      have hA : ∀ p ∈ a.map bytesOf, IsB p := by intro p hp; obtain ⟨s, _, rfl⟩ := List.mem_map.1 hp; exact isB_bytes s
      have hB : ∀ p ∈ b.map bytesOf, IsB p := by intro p hp; obtain ⟨s, _, rfl⟩ := List.mem_map.1 hp; exact isB_bytes s
      have law := after_law _ _ (mkKey_isB hk hA) (mkKey_isB hk hB)
      have e1 : (mkKey kind (a.map bytesOf)).isPrefixOf (mkKey kind (b.map bytesOf)) = (a.map bytesOf).isPrefixOf (b.map bytesOf) := by
        have := mk_pre _ _ hA hB
        simp only [mkKey, List.isPrefixOf, beq_self_eq_true, Bool.true_and]
        exact this
      rw [e1] at law
      simp only [less_bytes, toList_lit, List.map_nil, bytes_of_nums (mkKey_isB hk hA), bytes_of_nums (mkKey_isB hk hB), bytes_of_nums (after_isB (mkKey_isB hk hA))]
      by_cases h3 : ltb (mkKey kind (b.map bytesOf)) (mkKey kind (a.map bytesOf)) = true
      · simp only [if_pos h3]
        rw [h3] at law
        refine ev_eq (Ev.bind (ev_begins b a hbl) (Ev.now _)) ?_
        rw [← law]; rfl
      · simp only [if_neg h3]
        rw [Bool.not_eq_true] at h3
        rw [h3] at law
        by_cases h4 : after (mkKey kind (a.map bytesOf)) = []
        · simp only [if_pos h4]
          refine ev_eq (Ev.bind (ev_begins b a hbl) (Ev.now _)) ?_
          rw [← law, h4]; rfl
        · simp only [if_neg h4]
          refine ev_eq (Ev.bind (ev_begins b a hbl) (Ev.now _)) ?_
          have h4' : (after (mkKey kind (a.map bytesOf)) == []) = false := by simpa using h4
          rw [← law, h4']; simp
    · exact live _ (by simp only [Bool.not_eq_true] at h2; rw [h2]; rfl)
  · simp only [if_neg h1]; exact live _ rfl
end Go.Proofs.Ytnkcooeobmeahaa.Pure
