/- Keys: parts as bytes, names, numbers in sixteen digits: no Go here. -/
import Derived.Test.YtdbdajmgfajcpaaKN
import Derived.Test.YtdbdajmgfajcpaaKM
import Derived.Test.YtdbdajmgfajcpaaNM
namespace Go.Proofs.Ytdbdajmgfajcpaa.Asl
open Go Go.RowKit
set_option linter.unusedVariables false
set_option linter.unusedSimpArgs false
def es1 (c : Int) : List Int := if c = 0 then [0, 255] else [c]
def encP (p : List Int) : List Int := p.flatMap es1 ++ [0, 1]
def mkKey (kind : Int) (ps : List (List Int)) : List Int := kind :: ps.flatMap encP
theorem es1_isB {c : Int} (h : 0 ≤ c ∧ c ≤ 255) : IsB (es1 c) := by
  unfold es1; split
  · exact isB_cons.2 ⟨by omega, isB_cons.2 ⟨by omega, isB_nil⟩⟩
  · exact isB_cons.2 ⟨h, isB_nil⟩
theorem encP_isB {p : List Int} (h : IsB p) : IsB (encP p) := by
  refine isB_app.2 ⟨fun b hb => ?_, isB_cons.2 ⟨by omega, isB_cons.2 ⟨by omega, isB_nil⟩⟩⟩
  obtain ⟨c, hc, hb⟩ := List.mem_flatMap.1 hb
  exact es1_isB (h c hc) b hb
theorem mkKey_isB {k : Int} {ps : List (List Int)} (hk : 0 ≤ k ∧ k ≤ 255) (h : ∀ p ∈ ps, IsB p) : IsB (mkKey k ps) := by
  refine isB_cons.2 ⟨hk, fun b hb => ?_⟩
  obtain ⟨p, hp, hb⟩ := List.mem_flatMap.1 hb
  exact encP_isB (h p hp) b hb
theorem es1_len (l : List Int) : (l.flatMap es1).length ≤ 2 * l.length := by
  induction l with
  | nil => simp
  | cons c l ih =>
    rw [List.flatMap_cons, List.length_append, List.length_cons]
    have : (es1 c).length ≤ 2 := by unfold es1; split <;> simp
    omega
theorem encP_len (p : List Int) : (encP p).length ≤ 2 * p.length + 2 := by
  have := es1_len p
  simp only [encP, List.length_append, List.length_cons, List.length_nil]; omega
/-- How two parts stand ahead of what follows. -/
theorem enc_ltb : ∀ (p q X Y : List Int), IsB p → IsB q → ltb (encP p ++ X) (encP q ++ Y) = if p = q then ltb X Y else ltb p q
  | [], [], X, Y, _, _ => by simp [encP, ltb_cons]
  | [], d :: q, X, Y, _, hq => by
    have := (isB_cons.1 hq).1
    by_cases h : d = 0
    · subst h; simp [encP, es1, ltb]
    · rw [if_neg (by simp)]
      have h1 : 0 < d := by omega
      simp [encP, es1, h, ltb, h1]
  | c :: p, [], X, Y, hp, _ => by
    have := (isB_cons.1 hp).1
    by_cases h : c = 0
    · subst h; simp [encP, es1, ltb]
    · rw [if_neg (by simp)]
      have h1 : ¬ c < 0 := by omega
      simp [encP, es1, h, ltb, h1]
  | c :: p, d :: q, X, Y, hp, hq => by
    have hp1 := isB_cons.1 hp
    have hq1 := isB_cons.1 hq
    have ih := enc_ltb p q X Y hp1.2 hq1.2
    have e1 : ∀ (c : Int) (p X : List Int), encP (c :: p) ++ X = es1 c ++ (encP p ++ X) := by intro c p X; simp [encP, List.append_assoc]
    rw [e1, e1]
    by_cases h : c = d
    · subst h
      rw [ltb_app, ih, ltb_cons]
      simp
    · rw [if_neg (by simp [h])]
      have h2 : ltb (c :: p) (d :: q) = decide (c < d) := by
        rcases Int.lt_or_gt_of_ne h with h3 | h3
        · rw [ltb_lt h3]; simp [h3]
        · rw [ltb_gt h3]; simp; omega
      rw [h2]
      by_cases hc : c = 0
      · subst hc
        have hd : ¬ d = 0 := fun e => h e.symm
        simp [es1, hd, ltb, h]
      · by_cases hd : d = 0
        · subst hd; simp [es1, hc, ltb]
        · simp [es1, hc, hd, ltb, h]
/-- Lists of parts in order. -/
def ltp : List (List Int) → List (List Int) → Bool
  | _, [] => false
  | [], _ :: _ => true
  | a :: x, b :: y => if a = b then ltp x y else ltb a b
theorem mk_ltb : ∀ (a b : List (List Int)), (∀ p ∈ a, IsB p) → (∀ p ∈ b, IsB p) → ltb (a.flatMap encP) (b.flatMap encP) = ltp a b
  | [], [], _, _ => by simp [ltp, ltb]
  | [], q :: b, _, _ => by
    obtain ⟨x, l, e⟩ : ∃ x l, (q :: b).flatMap encP = x :: l := by
      cases h : (q :: b).flatMap encP with
      | nil => simp [encP] at h
      | cons x l => exact ⟨x, l, rfl⟩
    rw [e]; rfl
  | p :: a, [], _, _ => by simp [ltp, ltb_nil]
  | p :: a, q :: b, ha, hb => by
    rw [List.flatMap_cons, List.flatMap_cons, enc_ltb p q _ _ (ha p List.mem_cons_self) (hb q List.mem_cons_self)]
    simp only [ltp]
    rw [mk_ltb a b (fun p h => ha p (List.mem_cons_of_mem _ h)) (fun p h => hb p (List.mem_cons_of_mem _ h))]
theorem mkKey_ltb (k : Int) {a b : List (List Int)} (ha : ∀ p ∈ a, IsB p) (hb : ∀ p ∈ b, IsB p) : ltb (mkKey k a) (mkKey k b) = ltp a b := by
  unfold mkKey; rw [ltb_cons, mk_ltb a b ha hb]
theorem ltp_irr : ∀ a : List (List Int), ltp a a = false
  | [] => rfl
  | a :: x => by simp [ltp, ltp_irr x]
theorem ltp_total : ∀ a b : List (List Int), ltp a b = false → ltp b a = false → a = b
  | [], [], _, _ => rfl
  | [], _ :: _, h, _ => by simp [ltp] at h
  | _ :: _, [], _, h => by simp [ltp] at h
  | a :: x, b :: y, h, h' => by
    by_cases e : a = b
    · subst e
      simp only [ltp, if_true] at h h'
      rw [ltp_total x y h h']
    · simp only [ltp, if_neg e, if_neg (Ne.symm e)] at h h'
      exact absurd (ltb_total a b h h') e
theorem mk_inj {k k' : Int} {a b : List (List Int)} (ha : ∀ p ∈ a, IsB p) (hb : ∀ p ∈ b, IsB p) (h : mkKey k a = mkKey k' b) : k = k' ∧ a = b := by
  have hk : k = k' := (List.cons.inj h).1
  subst hk
  refine ⟨rfl, ltp_total a b ?_ ?_⟩
  · rw [← mkKey_ltb k ha hb, h, ltb_irr]
  · rw [← mkKey_ltb k hb ha, h, ltb_irr]
/-- The first part, and what stands behind it. -/
def fs : List Int → List Int → Option (List Int × List Int)
  | c :: d :: r, now => if c = 0 then (if d = 1 then some (now, r) else if d = 255 then fs r (now ++ [0]) else none) else fs (d :: r) (now ++ [c])
  | _, _ => none
termination_by l => l.length
theorem fs_nil (now : List Int) : fs [] now = none := by rw [fs]; simp
theorem fs_one (c : Int) (now : List Int) : fs [c] now = none := by rw [fs]; simp
theorem fs_cons {c : Int} (d : Int) (r now : List Int) (h : ¬ c = 0) : fs (c :: d :: r) now = fs (d :: r) (now ++ [c]) := by rw [fs, if_neg h]
theorem fs_cons' {c : Int} (r now : List Int) (h : ¬ c = 0) : fs (c :: r) now = fs r (now ++ [c]) := by
  cases r with
  | nil => rw [fs_one, fs_nil]
  | cons d r => exact fs_cons d r now h
theorem fs_zero (d : Int) (r now : List Int) : fs (0 :: d :: r) now = if d = 1 then some (now, r) else if d = 255 then fs r (now ++ [0]) else none := by rw [fs, if_pos rfl]
theorem fs_len : ∀ (n : Nat) (l now p r : List Int), l.length ≤ n → fs l now = some (p, r) → r.length < l.length := by
  intro n
  induction n with
  | zero => intro l now p r hl h; have e : l = [] := List.length_eq_zero_iff.1 (by omega); rw [e, fs_nil] at h; cases h
  | succ n ih =>
    intro l now p r hl h
    match l with
    | [] => rw [fs_nil] at h; cases h
    | [c] => rw [fs_one] at h; cases h
    | c :: d :: l =>
      simp only [List.length_cons] at hl ⊢
      by_cases hc : c = 0
      · subst hc
        rw [fs_zero] at h
        by_cases h1 : d = 1
        · rw [if_pos h1] at h; injection h with h; injection h with _ h; subst h; omega
        · rw [if_neg h1] at h
          by_cases h2 : d = 255
          · rw [if_pos h2] at h
            have := ih _ _ _ _ (by omega) h; omega
          · rw [if_neg h2] at h; cases h
      · rw [fs_cons _ _ _ hc] at h
        have := ih _ _ _ _ (by simp; omega) h
        simp only [List.length_cons] at this; omega
/-- All parts. -/
def pk (l : List Int) : Option (List (List Int)) :=
  if l = [] then some [] else
    match h : fs l [] with
    | none => none
    | some (p, r) => (pk r).map fun ps => p :: ps
termination_by l.length
decreasing_by exact fs_len _ _ _ _ _ (Nat.le_refl _) h
theorem pk_nil : pk [] = some [] := by rw [pk]; simp
theorem pk_none {l : List Int} (h0 : ¬ l = []) (h : fs l [] = none) : pk l = none := by
  rw [pk, if_neg h0]
  split
  · rfl
  · rename_i h2; rw [h] at h2; cases h2
theorem pk_some {l p r : List Int} (h0 : ¬ l = []) (h : fs l [] = some (p, r)) : pk l = (pk r).map fun ps => p :: ps := by
  rw [pk, if_neg h0]
  split
  · rename_i h2; rw [h] at h2; cases h2
  · rename_i p' r' h2; rw [h] at h2; injection h2 with h2; injection h2 with h2 h3; rw [h2, h3]
theorem fs_enc : ∀ (p X now : List Int), fs (encP p ++ X) now = some (now ++ p, X)
  | [], X, now => by
    show fs (0 :: 1 :: X) now = _
    rw [fs_zero, if_pos rfl, List.append_nil]
  | c :: p, X, now => by
    have ih := fs_enc p X (now ++ [c])
    have e : encP (c :: p) ++ X = es1 c ++ (encP p ++ X) := by simp [encP, List.append_assoc]
    rw [e]
    by_cases h : c = 0
    · subst h
      show fs (0 :: 255 :: (encP p ++ X)) now = _
      rw [fs_zero, if_neg (by decide), if_pos rfl, ih]
      simp [List.append_assoc]
    · have e2 : es1 c ++ (encP p ++ X) = c :: (encP p ++ X) := by unfold es1; rw [if_neg h]; rfl
      rw [e2, fs_cons' _ _ h, ih]
      simp [List.append_assoc]
theorem pk_enc : ∀ ps : List (List Int), pk (ps.flatMap encP) = some ps
  | [] => pk_nil
  | p :: ps => by
    have h0 : ¬ (p :: ps).flatMap encP = [] := by simp [encP]
    rw [pk_some h0 (p := p) (r := ps.flatMap encP) (by rw [List.flatMap_cons]; have := fs_enc p (ps.flatMap encP) []; rwa [List.nil_append] at this), pk_enc ps]
    rfl
theorem fs_of : ∀ (n : Nat) (l now p r : List Int), l.length ≤ n → fs l now = some (p, r) → ∃ q, p = now ++ q ∧ l = encP q ++ r := by
  intro n
  induction n with
  | zero => intro l now p r hl h; have e : l = [] := List.length_eq_zero_iff.1 (by omega); rw [e, fs_nil] at h; cases h
  | succ n ih =>
    intro l now p r hl h
    match l with
    | [] => rw [fs_nil] at h; cases h
    | [c] => rw [fs_one] at h; cases h
    | c :: d :: l =>
      simp only [List.length_cons] at hl
      by_cases hc : c = 0
      · subst hc
        rw [fs_zero] at h
        by_cases h1 : d = 1
        · rw [if_pos h1] at h; injection h with h; injection h with h2 h; subst h; subst h1; subst h2
          exact ⟨[], by simp, by simp [encP]⟩
        · rw [if_neg h1] at h
          by_cases h2 : d = 255
          · rw [if_pos h2] at h
            obtain ⟨q, hq, hl2⟩ := ih _ _ _ _ (by omega) h
            subst h2
            exact ⟨0 :: q, by rw [hq]; simp [List.append_assoc], by rw [hl2]; simp [encP, es1]⟩
          · rw [if_neg h2] at h; cases h
      · rw [fs_cons _ _ _ hc] at h
        obtain ⟨q, hq, hl2⟩ := ih _ _ _ _ (by simp; omega) h
        exact ⟨c :: q, by rw [hq]; simp [List.append_assoc], by rw [hl2]; simp [encP, es1, hc]⟩
theorem pk_of : ∀ (n : Nat) (l : List Int) (ps : List (List Int)), l.length ≤ n → pk l = some ps → l = ps.flatMap encP := by
  intro n
  induction n with
  | zero =>
    intro l ps hl h
    have : l = [] := List.length_eq_zero_iff.1 (by omega)
    subst this
    rw [pk_nil] at h; injection h with h; subst h; rfl
  | succ n ih =>
    intro l ps hl h
    by_cases h0 : l = []
    · subst h0; rw [pk_nil] at h; injection h with h; subst h; rfl
    · cases hf : fs l [] with
      | none => rw [pk_none h0 hf] at h; cases h
      | some x =>
        obtain ⟨p, r⟩ := x
        rw [pk_some h0 hf] at h
        obtain ⟨qs, hq, rfl⟩ := Option.map_eq_some_iff.1 h
        obtain ⟨q, hp, hl2⟩ := fs_of _ _ _ _ _ (Nat.le_refl _) hf
        have hlen := fs_len _ _ _ _ _ (Nat.le_refl _) hf
        have := ih r qs (by omega) hq
        rw [List.nil_append] at hp
        subst hp
        rw [hl2, this]; rfl
theorem fs_isB : ∀ (n : Nat) (l now p r : List Int), l.length ≤ n → IsB l → IsB now → fs l now = some (p, r) → IsB p ∧ IsB r := by
  intro n
  induction n with
  | zero => intro l now p r hl _ _ h; have e : l = [] := List.length_eq_zero_iff.1 (by omega); rw [e, fs_nil] at h; cases h
  | succ n ih =>
    intro l now p r hl hB hN h
    match l with
    | [] => rw [fs_nil] at h; cases h
    | [c] => rw [fs_one] at h; cases h
    | c :: d :: l =>
      simp only [List.length_cons] at hl
      have h1 := isB_cons.1 hB
      have h2 := isB_cons.1 h1.2
      by_cases hc : c = 0
      · subst hc
        rw [fs_zero] at h
        by_cases h3 : d = 1
        · rw [if_pos h3] at h; injection h with h; injection h with h4 h; subst h; subst h4
          exact ⟨hN, h2.2⟩
        · rw [if_neg h3] at h
          by_cases h4 : d = 255
          · rw [if_pos h4] at h
            exact ih _ _ _ _ (by omega) h2.2 (isB_app.2 ⟨hN, isB_cons.2 ⟨by omega, isB_nil⟩⟩) h
          · rw [if_neg h4] at h; cases h
      · rw [fs_cons _ _ _ hc] at h
        exact ih _ _ _ _ (by simp; omega) h1.2 (isB_app.2 ⟨hN, isB_cons.2 ⟨h1.1, isB_nil⟩⟩) h
/-- What a Parse tells: kind, parts, what is wrong. -/
def psR (kind : Int) (o : Option (List (List Int))) : Int × List ByteArray × Int := match o with | some ps => (kind, ps.map strOfNums, 0) | none => (0, [], 31)
/-- From within a part on. -/
def pk1 (l now : List Int) : Option (List (List Int)) := match fs l now with | none => none | some (p, r) => (pk r).map fun ps => p :: ps
theorem pk1_nil {l : List Int} (h : ¬ l = []) : pk l = pk1 l [] := by
  unfold pk1
  cases hf : fs l [] with
  | none => rw [pk_none h hf]
  | some x => obtain ⟨p, r⟩ := x; rw [pk_some h hf]
/-- The least text above all that begin with one. -/
def after : List Int → List Int
  | [] => []
  | c :: r => if after r = [] then (if c < 255 then [c + 1] else []) else c :: after r
theorem after_snoc : ∀ (l : List Int) (c : Int), after (l ++ [c]) = if c < 255 then l ++ [c + 1] else after l
  | [], c => by simp [after]
  | d :: l, c => by
    simp only [List.cons_append, after]
    rw [after_snoc l c]
    by_cases h : c < 255
    · rw [if_pos h, if_neg (by simp)]; simp [h]
    · rw [if_neg h]; simp [h]
theorem after_isB : ∀ {l : List Int}, IsB l → IsB (after l)
  | [], h => h
  | c :: r, h => by
    have h1 := isB_cons.1 h
    simp only [after]
    split
    · split
      · exact isB_cons.2 ⟨by omega, isB_nil⟩
      · exact isB_nil
    · exact isB_cons.2 ⟨h1.1, after_isB h1.2⟩
theorem after_len : ∀ l : List Int, (after l).length ≤ l.length
  | [] => Nat.le_refl _
  | c :: r => by
    have := after_len r
    simp only [after]
    split
    · split <;> simp
    · simp; exact this
/-- From p on, up to ahead of its After, lie just those that begin with it. -/
theorem after_law : ∀ (p s : List Int), IsB p → IsB s → ((!ltb s p) && ((after p == []) || ltb s (after p))) = p.isPrefixOf s
  | [], s, _, _ => by simp [after, ltb_nil]
  | c :: r, [], _, _ => by simp [ltb]
  | c :: r, d :: s, hp, hs => by
    have hp1 := isB_cons.1 hp
    have hs1 := isB_cons.1 hs
    have ih := after_law r s hp1.2 hs1.2
    rcases Int.lt_trichotomy d c with h | h | h
    · have hne : (c == d) = false := by simp; omega
      rw [ltb_lt h]; simp [List.isPrefixOf, hne]
    · subst h
      simp only [List.isPrefixOf, beq_self_eq_true, Bool.true_and]
      rw [← ih, ltb_cons]
      simp only [after]
      by_cases h1 : after r = []
      · rw [if_pos h1, h1]
        by_cases h2 : d < 255
        · rw [if_pos h2, ltb_lt (by omega)]; simp
        · rw [if_neg h2]; simp
      · have h1' : (after r == []) = false := by simpa using h1
        rw [if_neg h1, ltb_cons, h1']; rfl
    · have hne : (c == d) = false := by simp; omega
      have h0 : ltb (d :: s) (c :: r) = false := ltb_gt h _ _
      rw [h0]
      simp only [List.isPrefixOf, hne, Bool.false_and, Bool.not_false, Bool.true_and, after]
      by_cases h1 : after r = []
      · rw [if_pos h1]
        have h2 : c < 255 := by omega
        rw [if_pos h2]
        have h3 : ltb (d :: s) [c + 1] = false := by
          rcases Int.lt_trichotomy d (c + 1) with h4 | h4 | h4
          · omega
          · subst h4; rw [ltb_cons, ltb_nil]
          · exact ltb_gt h4 _ _
        rw [h3]; simp
      · rw [if_neg h1, ltb_gt h]; simp
/-- A digit's byte. -/
def dg (x : Int) : Int := if x < 10 then 48 + x else 87 + x
/-- A number in k digits, the highest first. -/
def hxd (a : Int) : Nat → List Int
  | 0 => []
  | k + 1 => hxd (a / 16) k ++ [dg (a % 16)]
theorem hxd_len (a : Int) : ∀ k, (hxd a k).length = k := by
  intro k
  induction k generalizing a with
  | zero => rfl
  | succ k ih => simp [hxd, ih]
theorem dg_bound {x : Int} (h0 : 0 ≤ x) (h1 : x < 16) : 48 ≤ dg x ∧ dg x ≤ 102 := by unfold dg; split <;> omega
theorem dg_lt {x y : Int} (hx : 0 ≤ x ∧ x < 16) (hy : 0 ≤ y ∧ y < 16) : dg x < dg y ↔ x < y := by unfold dg; split <;> split <;> omega
theorem dg_inj {x y : Int} (hx : 0 ≤ x ∧ x < 16) (hy : 0 ≤ y ∧ y < 16) : dg x = dg y ↔ x = y := by unfold dg; split <;> split <;> omega
theorem hxd_isB (a : Int) : ∀ k, IsB (hxd a k) := by
  intro k
  induction k generalizing a with
  | zero => exact isB_nil
  | succ k ih =>
    have := dg_bound (x := a % 16) (by omega) (by omega)
    exact isB_app.2 ⟨ih _, isB_cons.2 ⟨by omega, isB_nil⟩⟩
theorem ltb_snoc : ∀ (x y : List Int) (c d : Int), x.length = y.length → ltb (x ++ [c]) (y ++ [d]) = (ltb x y || (decide (x = y) && decide (c < d)))
  | [], [], c, d, _ => by simp [ltb]
  | [], _ :: _, _, _, h => by simp at h
  | _ :: _, [], _, _, h => by simp at h
  | a :: x, b :: y, c, d, h => by
    have ih := ltb_snoc x y c d (by simpa using h)
    simp only [List.cons_append, ltb, ih]
    by_cases e : a = b
    · subst e; simp
    · have e' : (a == b) = false := by simpa using e
      simp [e, e']
theorem hxd_inj : ∀ (k : Nat) (a b : Int), 0 ≤ a → a < 16 ^ k → 0 ≤ b → b < 16 ^ k → hxd a k = hxd b k → a = b
  | 0, a, b, h0, h1, h2, h3, _ => by simp at h1 h3; omega
  | k + 1, a, b, h0, h1, h2, h3, h => by
    have e := List.append_inj' h rfl
    rw [Int.pow_succ] at h1 h3
    have h4 := hxd_inj k (a / 16) (b / 16) (by omega) (by omega) (by omega) (by omega) e.1
    have h5 := (dg_inj (x := a % 16) (y := b % 16) (by omega) (by omega)).1 (by simpa using e.2)
    omega
theorem hxd_ltb : ∀ (k : Nat) (a b : Int), 0 ≤ a → a < 16 ^ k → 0 ≤ b → b < 16 ^ k → ltb (hxd a k) (hxd b k) = decide (a < b)
  | 0, a, b, h0, h1, h2, h3 => by simp at h1 h3; simp [hxd, ltb]; omega
  | k + 1, a, b, h0, h1, h2, h3 => by
    rw [Int.pow_succ] at h1 h3
    simp only [hxd]
    rw [ltb_snoc _ _ _ _ (by rw [hxd_len, hxd_len]), hxd_ltb k (a / 16) (b / 16) (by omega) (by omega) (by omega) (by omega)]
    have e1 : decide (hxd (a / 16) k = hxd (b / 16) k) = decide (a / 16 = b / 16) := by
      apply decide_eq_decide.2
      exact ⟨hxd_inj k _ _ (by omega) (by omega) (by omega) (by omega), fun h => by rw [h]⟩
    have e2 : decide (dg (a % 16) < dg (b % 16)) = decide (a % 16 < b % 16) := decide_eq_decide.2 (dg_lt (by omega) (by omega))
    rw [e1, e2, Bool.eq_iff_iff]
    simp
    omega
theorem hxd_range (a : Int) : ∀ k, (List.range k).map (fun i => dg (a / 16 ^ (k - 1 - i) % 16)) = hxd a k := by
  intro k
  induction k generalizing a with
  | zero => rfl
  | succ k ih =>
    rw [List.range_succ, List.map_append]
    simp only [hxd, List.map_cons, List.map_nil]
    rw [← ih (a / 16)]
    congr 1
    · apply List.map_congr_left
      intro i hi
      have hi' := List.mem_range.1 hi
      rw [show k + 1 - 1 - i = (k - 1 - i) + 1 by omega, Int.pow_succ, Int.mul_comm, ← Int.ediv_ediv_of_nonneg (by decide)]
    · simp
/-- What a digit stands for; 16: it is none. -/
def hv (c : Int) : Int := if 48 ≤ c ∧ c ≤ 57 then c - 48 else if 97 ≤ c ∧ c ≤ 102 then c - 87 else 16
def stp (n d : Int) : Int := 16 * n % 18446744073709551616 + d
/-- The number of digits, from n on. -/
def digs : List Int → Int → Option Int
  | [], n => some n
  | c :: r, n => if hv c = 16 then none else digs r (stp n (hv c))
theorem hv_bound (c : Int) : 0 ≤ hv c ∧ hv c ≤ 16 := by unfold hv; split <;> (try split) <;> omega
theorem stp_bound {n d : Int} (h0 : 0 ≤ d) (h1 : d < 16) : 0 ≤ stp n d ∧ stp n d < 18446744073709551616 := by unfold stp; omega
theorem digs_snoc : ∀ (l : List Int) (c n : Int), digs (l ++ [c]) n = (digs l n).bind fun m => if hv c = 16 then none else some (stp m (hv c))
  | [], c, n => by simp [digs]
  | d :: l, c, n => by
    simp only [List.cons_append, digs]
    split
    · rfl
    · exact digs_snoc l c _
theorem hv_dg {x : Int} (h0 : 0 ≤ x) (h1 : x < 16) : hv (dg x) = x := by unfold hv dg; split <;> split <;> (try split) <;> omega
theorem digs_hx : ∀ (k : Nat) (a : Int), 0 ≤ a → a < 16 ^ k → a < 18446744073709551616 → digs (hxd a k) 0 = some a
  | 0, a, h0, h1, _ => by simp at h1; simp [hxd, digs]; omega
  | k + 1, a, h0, h1, h2 => by
    rw [Int.pow_succ] at h1
    simp only [hxd]
    rw [digs_snoc, digs_hx k (a / 16) (by omega) (by omega) (by omega), Option.bind_some, hv_dg (by omega) (by omega), if_neg (by omega)]
    unfold stp
    congr 1
    omega
def digR (o : Option Int) : Int × Int := match o with | some v => (v, 0) | none => (0, 31)
def hexS : ByteArray := ⟨#[48, 49, 50, 51, 52, 53, 54, 55, 56, 57, 97, 98, 99, 100, 101, 102]⟩
theorem hexS_bt : ∀ j : _root_.Fin 16, byteAt hexS (j.val : Int) = dg (j.val : Int) := by decide +kernel
/-- What the inner loop finds, with m rounds left. -/
def fin (c : Int) : Nat → Int → Int
  | 0, x => x
  | m + 1, x => fin c m (if dg (16 - ((m : Int) + 1)) = c then 16 - ((m : Int) + 1) else x)
theorem fin_hv : ∀ c : _root_.Fin 256, fin (c.val : Int) 16 16 = hv (c.val : Int) := by decide +kernel
theorem hexS_cut : ∀ j : _root_.Fin 16, bytesOf (hexS.extract j.val (j.val + 1)) = [dg (j.val : Int)] := by decide +kernel
theorem or_stp {n d : Int} (h0 : 0 ≤ d) (h1 : d < 16) : orI .u64 (IntKind.u64.wrap (n * 16)) d = stp n d := by
  have e : ((2 ^ 4 : Nat) : Int) = 16 := rfl
  rw [wu64, orI_add _ _ 4 (by omega) h0 (by rw [e]; omega) (by rw [e]; omega) (by omega)]
  unfold stp; omega
theorem keyb_eq (k : Int) (ps : List ByteArray) : keyb k ps = mkKey k (ps.map bytesOf) := by simp only [keyb, mkKey, List.flatMap_map]; rfl
theorem map_bytes_inj : ∀ {a b : List ByteArray}, a.map bytesOf = b.map bytesOf → a = b
  | [], [], _ => rfl
  | [], _ :: _, h => by simp at h
  | _ :: _, [], h => by simp at h
  | x :: a, y :: b, h => by
    simp only [List.map_cons, List.cons.injEq] at h
    rw [bytes_inj h.1, map_bytes_inj h.2]
theorem hexAt_dg (n : Int) (i : Nat) (hi : i < 16) : hexAt n i = dg (n / 16 ^ (15 - i) % 16) := by
  unfold hexAt
  rw [show (2 : Int) ^ (60 - 4 * i) = 16 ^ (15 - i) by rw [show (16 : Int) = 2 ^ 4 by decide, ← Int.pow_mul, show 60 - 4 * i = 4 * (15 - i) by omega]]
  rfl
theorem hexs_eq (n : Int) : hexs n = hxd n 16 := by
  rw [← hxd_range n 16]
  apply List.map_congr_left
  intro i hi
  exact hexAt_dg n i (List.mem_range.1 hi)
theorem digs_hexs (a : Int) (h0 : 0 ≤ a) (h1 : a < 18446744073709551616) : digs (hexs a) 0 = some a := by
  rw [hexs_eq]; exact digs_hx 16 a h0 (by omega) h1
theorem hexs_isB (n : Int) : IsB (hexs n) := by rw [hexs_eq]; exact hxd_isB n 16
theorem hexs_len (n : Int) : (hexs n).length = 16 := by simp [hexs]
end Go.Proofs.Ytdbdajmgfajcpaa.Asl
