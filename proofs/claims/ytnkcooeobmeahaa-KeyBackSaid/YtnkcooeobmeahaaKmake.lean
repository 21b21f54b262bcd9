/- Keys: what Make comes to, how keys stand in order, and which parts are few. -/
import Derived.Test.YtnkcooeobmeahaaZ1
import Derived.Test.YtnkcooeobmeahaaZ4
import Derived.Test.YtnkcooeobmeahaaPB
namespace Go.Proofs.Ytnkcooeobmeahaa.K3
open Go.RowKit Go.Proofs.Ytnkcooeobmeahaa.Z Go.Proofs.YtnkcooeobmeahaaW.PrintWords Go.Proofs.YtnkcooeobmeahaaW.PrintLast Go.Proofs.YtnkcooeobmeahaaW.PrintMore Go.Proofs.Ytnkcooeobmeahaa.PB
set_option linter.unusedVariables false

def esc (c : Int) : List Int := if c = 0 then [0, 255] else [c]
def encP (p : List Int) : List Int := p.flatMap esc ++ [0, 1]
def mkKey (kind : Int) (ps : List (List Int)) : List Int := kind :: ps.flatMap encP
theorem esc_isB {c : Int} (h : 0 ≤ c ∧ c ≤ 255) : IsB (esc c) := by
  unfold esc; split
  · exact isB_cons.2 ⟨by omega, isB_cons.2 ⟨by omega, isB_nil⟩⟩
  · exact isB_cons.2 ⟨h, isB_nil⟩
theorem encP_isB {p : List Int} (h : IsB p) : IsB (encP p) := by
  refine isB_app.2 ⟨fun b hb => ?_, isB_cons.2 ⟨by omega, isB_cons.2 ⟨by omega, isB_nil⟩⟩⟩
  obtain ⟨c, hc, hb⟩ := List.mem_flatMap.1 hb
  exact esc_isB (h c hc) b hb
theorem mkKey_isB {k : Int} {ps : List (List Int)} (hk : 0 ≤ k ∧ k ≤ 255) (h : ∀ p ∈ ps, IsB p) : IsB (mkKey k ps) := by
  refine isB_cons.2 ⟨hk, fun b hb => ?_⟩
  obtain ⟨p, hp, hb⟩ := List.mem_flatMap.1 hb
  exact encP_isB (h p hp) b hb
theorem esc_len (l : List Int) : (l.flatMap esc).length ≤ 2 * l.length := by
  induction l with
  | nil => simp
  | cons c l ih =>
    rw [List.flatMap_cons, List.length_append, List.length_cons]
    have : (esc c).length ≤ 2 := by unfold esc; split <;> simp
    omega
theorem encP_len (p : List Int) : (encP p).length ≤ 2 * p.length + 2 := by
  have := esc_len p
  simp only [encP, List.length_append, List.length_cons, List.length_nil]; omega
/-- How many bytes a key may have. -/
def room (ls : List ByteArray) : Nat := (ls.map fun s => 2 * s.size + 2).sum

theorem ev_make_l1 (ls : List ByteArray) (n j : Int) (s : ByteArray) (r : ByteArray) (hs : s.size ≤ 4611686018427387904) (hj0 : 0 ≤ j) (hj : j < 4611686018427387904) : ∀ (m i : Nat) (x : List Int), i + m = s.size → x.length + 2 * m + 2 < 140737488355328 →
    Ev (fun k => key_Make.l0 k (x ++ ((bytesOf s).drop i).flatMap esc ++ [0, 1]) ls n (j + 1)) r → Ev (fun k => key_Make.l1 k x s ls n j (s.size : Int) (i : Int)) r
  | 0, i, x, hi, hb, h => by
    have hd : (bytesOf s).drop i = [] := List.drop_eq_nil_of_le (by rw [len_bytes]; omega)
    rw [hd] at h
    refine ev_step _ (fun k => ?_) h
    simp only [key_Make.l1]
    rw [if_neg (by omega)]
    simp only [Option.bind_some]
    rw [if_pos (by simp only [List.length_cons, List.length_nil]; omega), w64 (by omega) (by omega)]
    simp
  | m + 1, i, x, hi, hb, h => by
    rw [drop_bt s i (by omega)] at h
    have e1 : wrap64 ((i : Int) + 1) = ((i + 1 : Nat) : Int) := by rw [w64 (by omega) (by omega)]; omega
    by_cases h0 : bt s (i : Int) = 0
    · have ih := ev_make_l1 ls n j s r hs hj0 hj m (i + 1) (x ++ [bt s (i : Int)] ++ [255]) (by omega) (by simp only [List.length_append, List.length_cons, List.length_nil]; omega) (by
        rw [List.flatMap_cons, show esc (bt s (i : Int)) = [bt s (i : Int), 255] by rw [h0]; rfl] at h
        simpa [List.append_assoc] using h)
      refine ev_step _ (fun k => ?_) ih
      simp only [key_Make.l1]
      rw [if_pos (by omega), if_pos (by omega), if_pos (by omega), if_pos (by omega)]
      simp only [Option.bind_some]
      rw [if_pos h0, if_pos (by simp only [List.length_append, List.length_cons, List.length_nil]; omega), e1]
    · have ih := ev_make_l1 ls n j s r hs hj0 hj m (i + 1) (x ++ [bt s (i : Int)]) (by omega) (by simp only [List.length_append, List.length_cons, List.length_nil]; omega) (by
        rw [List.flatMap_cons, show esc (bt s (i : Int)) = [bt s (i : Int)] by unfold esc; rw [if_neg h0]] at h
        simpa [List.append_assoc] using h)
      refine ev_step _ (fun k => ?_) ih
      simp only [key_Make.l1]
      rw [if_pos (by omega), if_pos (by omega), if_pos (by omega), if_pos (by omega)]
      simp only [Option.bind_some]
      rw [if_neg h0, e1]

theorem ev_make_l0 (ls : List ByteArray) (hl : ls.length ≤ 4611686018427387904) (hs : ∀ s ∈ ls, s.size ≤ 4611686018427387904) : ∀ (m j : Nat) (x : List Int), j + m = ls.length → x.length + room (ls.drop j) < 140737488355328 →
    Ev (fun k => key_Make.l0 k x ls (ls.length : Int) (j : Int)) (strOfNums (x ++ (ls.drop j).flatMap fun s => encP (bytesOf s)))
  | 0, j, x, hj, hb => by
    refine ev_none (fun k => ?_)
    simp only [key_Make.l0]
    rw [if_neg (by omega), List.drop_eq_nil_of_le (by omega)]
    simp
  | m + 1, j, x, hj, hb => by
    have hjl : j < ls.length := by omega
    rw [drop_rdOf ByteArray.empty ls j hjl] at hb ⊢
    obtain ⟨s, hse⟩ : ∃ s, rdOf ByteArray.empty ls (j : Int) = s := ⟨_, rfl⟩
    have hmem : s ∈ ls := by rw [← hse, rdOf_nat _ _ _ hjl]; exact List.getElem_mem hjl
    rw [hse] at hb ⊢
    have hroom : room (s :: ls.drop (j + 1)) = 2 * s.size + 2 + room (ls.drop (j + 1)) := by simp [room]
    have hel : (encP (bytesOf s)).length ≤ 2 * s.size + 2 := by have := encP_len (bytesOf s); rw [len_bytes] at this; exact this
    have ih := ev_make_l0 ls hl hs m (j + 1) (x ++ encP (bytesOf s)) (by omega) (by rw [List.length_append]; omega)
    have e2 : ((j + 1 : Nat) : Int) = (j : Int) + 1 := by omega
    have h1 := ev_make_l1 ls (ls.length : Int) (j : Int) s _ (hs s hmem) (by omega) (by omega) s.size 0 x (by omega) (by omega) (by
      rw [List.drop_zero, List.append_assoc, ← e2]; exact ih)
    refine ev_step _ (fun k => ?_) (ev_eq h1 (by simp [List.append_assoc]))
    simp only [key_Make.l0]
    rw [if_pos (by omega), if_pos (by omega), if_pos (by omega), hse]
    rfl
theorem ev_make (kind : Int) (ls : List ByteArray) (hs : ∀ s ∈ ls, s.size ≤ 1000000) (hl : ls.length ≤ 1000000) :
    Ev (fun k => key_Make.f k kind ls) (strOfNums (mkKey kind (ls.map bytesOf))) := by
  have hroom : ∀ l : List ByteArray, (∀ s ∈ l, s.size ≤ 1000000) → room l ≤ 2000002 * l.length := by
    intro l
    induction l with
    | nil => intro _; simp [room]
    | cons a l ih =>
      intro h
      have h1 := ih (fun s hs => h s (List.mem_cons_of_mem _ hs))
      have h2 := h a List.mem_cons_self
      have : room (a :: l) = 2 * a.size + 2 + room l := by simp [room]
      rw [this, List.length_cons]; omega
  have h := hroom ls hs
  have h1 := ev_make_l0 ls (by omega) (fun s h => by have := hs s h; omega) ls.length 0 [kind] (by omega) (by rw [List.drop_zero, List.length_singleton]; omega)
  refine ev_eq h1 ?_
  rw [List.drop_zero]
  simp [mkKey, List.flatMap_map]

/-! which parts are few -/
def fewB (l : List ByteArray) : Bool := l.all (fun s => decide (s.size ≤ 100)) && decide (l.length ≤ 20)
theorem ev_few_l0 (ls : List ByteArray) (hl : ls.length ≤ 4611686018427387904) : ∀ (m j : Nat), j + m = ls.length → Ev (fun k => conductorlaw03_few.l0 k ls ls (ls.length : Int) (j : Int)) ((ls.drop j).all (fun s => decide (s.size ≤ 100)) && decide (ls.length ≤ 20))
  | 0, j, hj => by
    refine ev_none (fun k => ?_)
    simp only [conductorlaw03_few.l0]
    rw [if_neg (by omega), List.drop_eq_nil_of_le (by omega)]
    congr 1
    rw [Bool.eq_iff_iff]; simp; omega
  | m + 1, j, hj => by
    have hjl : j < ls.length := by omega
    rw [drop_rdOf ByteArray.empty ls j hjl]
    have e1 : wrap64 ((j : Int) + 1) = ((j + 1 : Nat) : Int) := by rw [w64 (by omega) (by omega)]; omega
    by_cases h : ((rdOf ByteArray.empty ls (j : Int)).size : Int) > 100
    · refine ev_none (fun k => ?_)
      simp only [conductorlaw03_few.l0]
      rw [if_pos (by omega), if_pos (by omega), if_pos (by omega), if_pos h, List.all_cons, show decide ((rdOf ByteArray.empty ls (j : Int)).size ≤ 100) = false by simp; omega]
      rfl
    · rw [List.all_cons, show decide ((rdOf ByteArray.empty ls (j : Int)).size ≤ 100) = true by simp; omega, Bool.true_and]
      refine ev_step _ (fun k => ?_) (ev_few_l0 ls hl m (j + 1) (by omega))
      simp only [conductorlaw03_few.l0]
      rw [if_pos (by omega), if_pos (by omega), if_pos (by omega), if_neg h, e1]
theorem ev_few (ls : List ByteArray) (hl : ls.length ≤ 4611686018427387904) : Ev (fun k => conductorlaw03_few.f k ls) (fewB ls) := by
  have h := ev_few_l0 ls hl ls.length 0 (by omega)
  rw [List.drop_zero] at h
  exact h
theorem few_of {l : List ByteArray} (h : fewB l = true) : (∀ s ∈ l, s.size ≤ 100) ∧ l.length ≤ 20 := by
  simp only [fewB, Bool.and_eq_true, List.all_eq_true, decide_eq_true_eq] at h
  exact h

/-! keys in order -/
/-- How two parts stand ahead of what follows. -/
theorem enc_ltb : ∀ (p q X Y : List Int), IsB p → IsB q → ltb (encP p ++ X) (encP q ++ Y) = if p = q then ltb X Y else ltb p q
  | [], [], X, Y, _, _ => by simp [encP, ltb_cons]
  | [], d :: q, X, Y, _, hq => by
    have := (isB_cons.1 hq).1
    by_cases h : d = 0
    · subst h; simp [encP, esc, ltb]
    · rw [if_neg (by simp)]
      have h1 : 0 < d := by omega
      simp [encP, esc, h, ltb, h1]
  | c :: p, [], X, Y, hp, _ => by
    have := (isB_cons.1 hp).1
    by_cases h : c = 0
    · subst h; simp [encP, esc, ltb]
    · rw [if_neg (by simp)]
      have h1 : ¬ c < 0 := by omega
      simp [encP, esc, h, ltb, h1]
  | c :: p, d :: q, X, Y, hp, hq => by
    have hp1 := isB_cons.1 hp
    have hq1 := isB_cons.1 hq
    have ih := enc_ltb p q X Y hp1.2 hq1.2
    have e1 : ∀ (c : Int) (p X : List Int), encP (c :: p) ++ X = esc c ++ (encP p ++ X) := by intro c p X; simp [encP, List.append_assoc]
    rw [e1, e1]
    by_cases h : c = d
    · subst h
      rw [ltb_app, ih, ltb_cons]
      simp
    · rw [if_neg (by simp [h])]
      have h2 : ltb (c :: p) (d :: q) = decide (c < d) := by
        rcases Int.lt_or_gt_of_ne h with h3 | h3
        · rw [ltb_lt h3]; simp [h3]
        · rw [ltb_gt h3]; simp; omega
      rw [h2]
      by_cases hc : c = 0
      · subst hc
        have hd : ¬ d = 0 := fun e => h e.symm
        simp [esc, hd, ltb, h]
      · by_cases hd : d = 0
        · subst hd; simp [esc, hc, ltb]
        · simp [esc, hc, hd, ltb, h]
/-- Lists of parts in order. -/
def ltp : List (List Int) → List (List Int) → Bool
  | _, [] => false
  | [], _ :: _ => true
  | a :: x, b :: y => if a = b then ltp x y else ltb a b
theorem mk_ltb : ∀ (a b : List (List Int)), (∀ p ∈ a, IsB p) → (∀ p ∈ b, IsB p) → ltb (a.flatMap encP) (b.flatMap encP) = ltp a b
  | [], [], _, _ => by simp [ltp, ltb]
  | [], q :: b, _, _ => by
    obtain ⟨x, l, e⟩ : ∃ x l, (q :: b).flatMap encP = x :: l := by
      cases h : (q :: b).flatMap encP with
      | nil => simp [encP] at h
      | cons x l => exact ⟨x, l, rfl⟩
    rw [e]; rfl
  | p :: a, [], _, _ => by simp [ltp, ltb_nil]
  | p :: a, q :: b, ha, hb => by
    rw [List.flatMap_cons, List.flatMap_cons, enc_ltb p q _ _ (ha p List.mem_cons_self) (hb q List.mem_cons_self)]
    simp only [ltp]
    rw [mk_ltb a b (fun p h => ha p (List.mem_cons_of_mem _ h)) (fun p h => hb p (List.mem_cons_of_mem _ h))]
theorem mkKey_ltb (k : Int) {a b : List (List Int)} (ha : ∀ p ∈ a, IsB p) (hb : ∀ p ∈ b, IsB p) : ltb (mkKey k a) (mkKey k b) = ltp a b := by
  unfold mkKey; rw [ltb_cons, mk_ltb a b ha hb]
theorem ltp_irr : ∀ a : List (List Int), ltp a a = false
  | [] => rfl
  | a :: x => by simp [ltp, ltp_irr x]
theorem ltp_total : ∀ a b : List (List Int), ltp a b = false → ltp b a = false → a = b
  | [], [], _, _ => rfl
  | [], _ :: _, h, _ => by simp [ltp] at h
  | _ :: _, [], _, h => by simp [ltp] at h
  | a :: x, b :: y, h, h' => by
    by_cases e : a = b
    · subst e
      simp only [ltp, if_true] at h h'
      rw [ltp_total x y h h']
    · simp only [ltp, if_neg e, if_neg (Ne.symm e)] at h h'
      exact absurd (ltb_total a b h h') e
theorem mk_inj {k k' : Int} {a b : List (List Int)} (ha : ∀ p ∈ a, IsB p) (hb : ∀ p ∈ b, IsB p) (h : mkKey k a = mkKey k' b) : k = k' ∧ a = b := by
  have hk : k = k' := (List.cons.inj h).1
  subst hk
  refine ⟨rfl, ltp_total a b ?_ ?_⟩
  · rw [← mkKey_ltb k ha hb, h, ltb_irr]
  · rw [← mkKey_ltb k hb ha, h, ltb_irr]
end Go.Proofs.Ytnkcooeobmeahaa.K3
