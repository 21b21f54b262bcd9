/- The plain law: a right value is got again of its text, whatever follows that is no letter, digit or hyphen. -/
import Derived.Test.YtekiaempcgjejaaZ14
import Derived.Test.YtekiaempcgjejaaVlive
import Derived.Test.YtekiaempcgjejaaVparse
namespace Go.Proofs.Ytekiaempcgjejaa.Pure
open Go.RowKit Go.Proofs.Ytekiaempcgjejaa.Z Go.Proofs.YtekiaempcgjejaaW.PrintWords Go.Proofs.YtekiaempcgjejaaW.PrintLast Go.Proofs.YtekiaempcgjejaaW.PrintMore Go.Proofs.Ytekiaempcgjejaa.PB Go.Proofs.Ytekiaempcgjejaa.V4
set_option linter.unusedVariables false
set_option linter.unusedSimpArgs false
/-- The text of a right value. -/
def prt (kd n : Int) (s : ByteArray) : List Int := if kd = 1 then value_number.list n else if kd = 2 then (if n = 0 then [102, 97, 108, 115, 101] else [116, 114, 117, 101]) else quo (bytesOf s)
/-- A right value. -/
def RightV (kd n : Int) (s : ByteArray) : Prop := (kd = 1 ∧ s = ⟨#[]⟩) ∨ (kd = 2 ∧ (n = 0 ∨ n = 1) ∧ s = ⟨#[]⟩) ∨ (kd = 3 ∧ n = 0 ∧ s.size ≤ 64)
theorem empty_of {s : ByteArray} (h : s.toList = []) : s = ⟨#[]⟩ := bytes_inj (List.length_eq_zero_iff.1 (by rw [len_bytes]; exact toList_nil.1 h))
theorem right_of {kd n : Int} {s : ByteArray} (h : value_Right.f kd n s = some 0) : RightV kd n s := by
  unfold value_Right.f at h
  by_cases h3 : kd = 3
  · rw [if_pos h3] at h
    by_cases h4 : (s.size : Int) > 64
    · rw [if_pos h4] at h; simp at h
    · rw [if_neg h4] at h
      by_cases h5 : n = 0
      · exact .inr (.inr ⟨h3, h5, by omega⟩)
      · rw [if_neg h5] at h; simp at h
  · rw [if_neg h3] at h
    by_cases h2 : kd = 2
    · rw [if_pos h2] at h
      by_cases h4 : n = 0
      · rw [if_pos h4] at h
        by_cases h5 : s.toList = []
        · exact .inr (.inl ⟨h2, .inl h4, empty_of h5⟩)
        · rw [if_neg h5] at h; simp at h
      · rw [if_neg h4] at h
        by_cases h6 : n = 1
        · rw [if_pos h6] at h
          by_cases h5 : s.toList = []
          · exact .inr (.inl ⟨h2, .inr h6, empty_of h5⟩)
          · rw [if_neg h5] at h; simp at h
        · rw [if_neg h6] at h; simp at h
    · rw [if_neg h2] at h
      by_cases h1 : kd = 1
      · rw [if_pos h1] at h
        by_cases h5 : s.toList = []
        · exact .inl ⟨h1, empty_of h5⟩
        · rw [if_neg h5] at h; simp at h
      · rw [if_neg h1] at h; simp at h
theorem right_some (kd n : Int) (s : ByteArray) : ∃ e, value_Right.f kd n s = some e := by
  unfold value_Right.f
  repeat' split
  all_goals exact ⟨_, rfl⟩
theorem list_isB {n : Int} : IsB (value_number.list n) := by
  have hd : ∀ u : Int, 0 ≤ u → IsB (value_number.dec 20 u) := fun u h c hc => by
    have h2 : 48 ≤ c ∧ c ≤ 57 := dec_digits 20 u h c hc
    exact ⟨by omega, by omega⟩
  unfold value_number.list
  split
  · exact isB_cons.2 ⟨by omega, hd _ (by omega)⟩
  · exact hd _ (by omega)
theorem prt_isB (kd n : Int) (s : ByteArray) : IsB (prt kd n s) := by
  unfold prt
  split
  · exact list_isB
  · split
    · split <;> (intro b hb; simp at hb; omega)
    · exact quo_isB (isB_bytes s)
theorem dec_len : ∀ (k : Nat) (u : Int), (value_number.dec k u).length ≤ k
  | 0, u => by simp [value_number.dec]
  | k + 1, u => by
    rw [value_number.dec]
    split
    · simp
    · have := dec_len k (u / 10); simp; omega
theorem quo_len (l : List Int) : (quo l).length ≤ 3 * l.length + 2 := by
  have h : ∀ l : List Int, (l.flatMap esc4).length ≤ 3 * l.length := by
    intro l
    induction l with
    | nil => simp
    | cons c l ih => have := esc4_len c; rw [List.flatMap_cons, List.length_append, List.length_cons]; omega
  have := h l
  simp only [quo, List.length_cons, List.length_append, List.length_nil]; omega
theorem prt_len {kd n : Int} {s : ByteArray} (h : RightV kd n s) : (prt kd n s).length ≤ 200 := by
  rcases h with ⟨h1, _⟩ | ⟨h1, _, _⟩ | ⟨h1, _, h2⟩
  · unfold prt; rw [if_pos h1]; unfold value_number.list
    split
    · have := dec_len 20 (-n); simp; omega
    · have := dec_len 20 n; omega
  · subst h1; unfold prt; rw [if_neg (by decide), if_pos rfl]; split <;> simp
  · subst h1; unfold prt; rw [if_neg (by decide), if_neg (by decide)]
    have := quo_len (bytesOf s); rw [len_bytes] at this; omega
theorem ev_print {kd n : Int} {s : ByteArray} (hn : -9223372036854775808 ≤ n ∧ n ≤ 9223372036854775807) (h : RightV kd n s) : Ev (fun k => value_Print.f k kd n s) (strOfNums (prt kd n s)) := by
  unfold value_Print.f prt
  rcases h with ⟨h1, _⟩ | ⟨h1, _, _⟩ | ⟨h1, _, h2⟩
  · subst h1
    simp only [if_true]
    unfold value_number.f
    rw [if_pos hn.1, if_pos hn.2]
    exact Ev.now _
  · subst h1
    simp only [if_neg (show ¬ (2 : Int) = 1 by decide), if_true]
    by_cases h0 : n = 0
    · simp only [if_pos h0]; exact Ev.now _
    · simp only [if_neg h0]; exact Ev.now _
  · subst h1
    simp only [if_neg (show ¬ (3 : Int) = 1 by decide), if_neg (show ¬ (3 : Int) = 2 by decide), if_true]
    exact Ev.bind (ev_quote s (by omega)) (Ev.now _)
theorem wordF : (rdOf ByteArray.empty ([(⟨#[102, 97, 108, 115, 101]⟩ : ByteArray), (⟨#[116, 114, 117, 101]⟩ : ByteArray)] : List ByteArray) 0) = ⟨#[102, 97, 108, 115, 101]⟩ := rfl
theorem wordT : (rdOf ByteArray.empty ([(⟨#[102, 97, 108, 115, 101]⟩ : ByteArray), (⟨#[116, 114, 117, 101]⟩ : ByteArray)] : List ByteArray) 1) = ⟨#[116, 114, 117, 101]⟩ := rfl
theorem ends_at {T : ByteArray} {P M : List Int} (hb : bytesOf T = P ++ M) (hM : EndsM M) (h : ¬ (T.size : Int) = (P.length : Int)) : (P.length : Int) < (T.size : Int) ∧ inB (bt T (P.length : Int)) = false := by
  have hsz : T.size = P.length + M.length := by rw [← len_bytes, hb, List.length_append]
  cases M with
  | nil => simp at hsz; omega
  | cons c r =>
    refine ⟨by simp at hsz; omega, ?_⟩
    rw [bt_eq, hb, Int.toNat_natCast]
    have : (P ++ c :: r).getD P.length 0 = c := by simp [List.getD_eq_getElem?_getD]
    rw [this]
    exact hM c r rfl
/-- What is printed of a right value is parsed as it is, whatever ends it. -/
theorem ev_parse {kd n : Int} {s : ByteArray} (hn : -9223372036854775808 ≤ n ∧ n ≤ 9223372036854775807) (h : RightV kd n s) (T : ByteArray) (hT : T.size ≤ 1000000) (M : List Int) (hM : EndsM M) (hb : bytesOf T = prt kd n s ++ M) :
    Ev (fun k => value_Parse.f k T) (kd, n, s, ((prt kd n s).length : Int), 0) := by
  have hne : ∀ c r, prt kd n s ++ M = c :: r → ¬ T.toList = [] ∧ 0 < T.size ∧ bt T 0 = c := by
    intro c r e
    have hd : (bytesOf T).drop 0 = c :: r := by rw [List.drop_zero, hb, e]
    obtain ⟨h1, h2, _⟩ := drop_next hd
    exact ⟨fun h => by have := toList_nil.1 h; omega, h1, h2⟩
  unfold value_Parse.f
  rcases h with ⟨h1, h2⟩ | ⟨h1, h2, h3⟩ | ⟨h1, h2, h3⟩
  · subst h1; subst h2
    have ep : prt 1 n ⟨#[]⟩ = value_number.list n := by unfold prt; rw [if_pos rfl]
    rw [ep] at hb hne ⊢
    have hpi := ev_parseInt n hn.1 hn.2 T (by omega) M hM hb
    have hj : ∀ c : Int, Ev (fun k => value_Parse.j0 k T c true) (1, n, (⟨#[]⟩ : ByteArray), ((value_number.list n).length : Int), 0) := by
      intro c
      refine ev_step _ (fun k => by simp only [value_Parse.j0]; rw [if_pos trivial]) ?_
      exact Ev.bind hpi (Ev.now _)
    by_cases hneg : n < 0
    · obtain ⟨c, r, ec, _, _⟩ := dec_head 19 (-n) (by omega) (by omega)
      have el : value_number.list n = 45 :: c :: r := by unfold value_number.list; rw [if_pos hneg, ec]
      have hcd : 48 ≤ c ∧ c ≤ 57 := dec_digits 20 (-n) (by omega) c (by rw [ec]; exact List.mem_cons_self)
      obtain ⟨g1, g2, g3⟩ := hne 45 (c :: r ++ M) (by rw [el]; rfl)
      have hd1 : (bytesOf T).drop 1 = c :: (r ++ M) := by rw [hb, el]; rfl
      obtain ⟨g4, g5, _⟩ := drop_next hd1
      have g5' : bt T 1 = c := g5
      simp only [if_neg g1, if_pos (show 0 < (T.size : Int) by omega), g3, digit_f, Option.bind_some, if_pos (show (T.size : Int) > 1 by omega), if_pos (show 1 < (T.size : Int) by omega), g5']
      rw [show decide (48 ≤ (45 : Int) ∧ (45 : Int) ≤ 57) = false by decide, show decide (48 ≤ c ∧ c ≤ 57) = true from decide_eq_true hcd]
      simp only [if_neg Bool.false_ne_true, if_true]
      exact hj 45
    · obtain ⟨c, r, ec, _, _⟩ := dec_head 19 n (by omega) (by omega)
      have el : value_number.list n = c :: r := by unfold value_number.list; rw [if_neg hneg, ec]
      have hcd : 48 ≤ c ∧ c ≤ 57 := dec_digits 20 n (by omega) c (by rw [ec]; exact List.mem_cons_self)
      obtain ⟨g1, g2, g3⟩ := hne c (r ++ M) (by rw [el]; rfl)
      simp only [if_neg g1, if_pos (show 0 < (T.size : Int) by omega), g3, digit_f, Option.bind_some]
      rw [show decide (48 ≤ c ∧ c ≤ 57) = true from decide_eq_true hcd]
      simp only [if_true]
      exact hj c
  · subst h1; subst h3
    have hj : ∀ c : Int, ¬ c = 34 → Ev (fun k => value_Parse.l0 k T 0) (2, n, (⟨#[]⟩ : ByteArray), ((prt 2 n ⟨#[]⟩).length : Int), 0) → Ev (fun k => value_Parse.j0 k T c false) (2, n, (⟨#[]⟩ : ByteArray), ((prt 2 n ⟨#[]⟩).length : Int), 0) := by
      intro c hc hl
      refine ev_step _ (fun k => ?_) hl
      simp only [value_Parse.j0]; rw [if_neg (by decide), if_neg hc]
    rcases h2 with h2 | h2
    · subst h2
      have ep : prt 2 0 ⟨#[]⟩ = [102, 97, 108, 115, 101] := by unfold prt; rw [if_neg (by decide), if_pos rfl, if_pos rfl]
      rw [ep] at hb hne
      obtain ⟨g1, g2, g3⟩ := hne 102 ([97, 108, 115, 101] ++ M) rfl
      have hsz : T.size = 5 + M.length := by rw [← len_bytes, hb, List.length_append]; rfl
      simp only [if_neg g1, if_pos (show 0 < (T.size : Int) by omega), g3, digit_f, Option.bind_some, if_neg (show ¬ (102 : Int) = 45 by decide)]
      rw [show decide (48 ≤ (102 : Int) ∧ (102 : Int) ≤ 57) = false by decide]
      simp only [if_neg Bool.false_ne_true]
      refine hj 102 (by decide) ?_
      rw [ep]
      refine ev_none (fun k => ?_)
      have ex : (T.extract 0 5).toList = [102, 97, 108, 115, 101] := by
        rw [toList_lit, bytes_extract, hb]; rfl
      simp only [value_Parse.l0]
      rw [if_pos (by decide), if_pos (by decide), wordF]
      simp only [show ((⟨#[102, 97, 108, 115, 101]⟩ : ByteArray).size) = 5 from rfl, Int.toNat_natCast]
      rw [if_pos (by omega), if_pos (by omega), if_pos (by omega), if_pos (by rw [ex, eq_comm, toList_lit]; rfl)]
      have eb : ((⟨#[102, 97, 108, 115, 101]⟩ : ByteArray).toList == ([116, 114, 117, 101] : List UInt8)) = false := by rw [beq_lit]; rfl
      by_cases he : (T.size : Int) = ((5 : Nat) : Int)
      · rw [if_pos he]; simp only [value_Bool.f, eb, Option.bind_some]; rfl
      · obtain ⟨q1, q2⟩ := ends_at hb hM (by simpa using he)
        rw [if_neg he, if_pos (by simpa using q1), inner_f, Option.bind_some]
        rw [show inB (bt T ((5 : Nat) : Int)) = false from q2]
        rw [if_neg (by decide)]
        simp only [value_Bool.f, eb, Option.bind_some]; rfl
    · subst h2
      have ep : prt 2 1 ⟨#[]⟩ = [116, 114, 117, 101] := by unfold prt; rw [if_neg (by decide), if_pos rfl, if_neg (by decide)]
      rw [ep] at hb hne
      obtain ⟨g1, g2, g3⟩ := hne 116 ([114, 117, 101] ++ M) rfl
      have hsz : T.size = 4 + M.length := by rw [← len_bytes, hb, List.length_append]; rfl
      simp only [if_neg g1, if_pos (show 0 < (T.size : Int) by omega), g3, digit_f, Option.bind_some, if_neg (show ¬ (116 : Int) = 45 by decide)]
      rw [show decide (48 ≤ (116 : Int) ∧ (116 : Int) ≤ 57) = false by decide]
      simp only [if_neg Bool.false_ne_true]
      refine hj 116 (by decide) ?_
      rw [ep]
      have l1 : Ev (fun k => value_Parse.l0 k T 1) (2, 1, (⟨#[]⟩ : ByteArray), (([116, 114, 117, 101] : List Int).length : Int), 0) := by
        refine ev_none (fun k => ?_)
        have ex : (T.extract 0 4).toList = [116, 114, 117, 101] := by
          rw [toList_lit, bytes_extract, hb]; rfl
        simp only [value_Parse.l0]
        rw [if_pos (by decide), if_pos (by decide), wordT]
        simp only [show ((⟨#[116, 114, 117, 101]⟩ : ByteArray).size) = 4 from rfl, Int.toNat_natCast]
        rw [if_pos (by omega), if_pos (by omega), if_pos (by omega), if_pos (by rw [ex, eq_comm, toList_lit]; rfl)]
        have eb : ((⟨#[116, 114, 117, 101]⟩ : ByteArray).toList == ([116, 114, 117, 101] : List UInt8)) = true := by rw [beq_lit]; rfl
        by_cases he : (T.size : Int) = ((4 : Nat) : Int)
        · rw [if_pos he]; simp only [value_Bool.f, eb, Option.bind_some]; rfl
        · obtain ⟨q1, q2⟩ := ends_at hb hM (by simpa using he)
          rw [if_neg he, if_pos (by simpa using q1), inner_f, Option.bind_some]
          rw [show inB (bt T ((4 : Nat) : Int)) = false from q2]
          rw [if_neg (by decide)]
          simp only [value_Bool.f, eb, Option.bind_some]; rfl
      refine ev_step _ (fun k => ?_) l1
      have ex : ¬ (T.extract 0 5).toList = (⟨#[102, 97, 108, 115, 101]⟩ : ByteArray).toList := by
        rw [toList_eq_iff, bytes_extract, hb]
        intro h
        have h := congrArg (fun l => l.head?) h
        simp at h
        exact absurd h (by decide)
      simp only [value_Parse.l0]
      rw [if_pos (by decide), if_pos (by decide), wordF]
      simp only [show ((⟨#[102, 97, 108, 115, 101]⟩ : ByteArray).size) = 5 from rfl, Int.toNat_natCast]
      have e1 : wrap64 (0 + 1) = 1 := by unfold wrap64; rfl
      by_cases h5 : (T.size : Int) ≥ ((5 : Nat) : Int)
      · rw [if_pos h5, if_pos (by omega), if_pos (by omega), if_neg ex, e1]
      · rw [if_neg h5, e1]
  · subst h1; subst h2
    have ep : prt 3 0 s = quo (bytesOf s) := by unfold prt; rw [if_neg (by decide), if_neg (by decide)]
    rw [ep] at hb hne ⊢
    obtain ⟨g1, g2, g3⟩ := hne 34 ((bytesOf s).flatMap esc4 ++ [34] ++ M) rfl
    simp only [if_neg g1, if_pos (show 0 < (T.size : Int) by omega), g3, digit_f, Option.bind_some, if_neg (show ¬ (34 : Int) = 45 by decide)]
    rw [show decide (48 ≤ (34 : Int) ∧ (34 : Int) ≤ 57) = false by decide]
    simp only [if_neg Bool.false_ne_true]
    have := ev_parseText s h3 T hT M hb
    refine ev_step _ (fun k => by simp only [value_Parse.j0]; rw [if_neg (by decide), if_pos trivial]) ?_
    exact Ev.bind this (Ev.now _)
theorem ValueRead : ∀ (x0 : S24) (x1 : ByteArray), ok24 x0 → x1.size ≤ 140737488351232 → ∃ k, conductorlaw04_ValueRead.f k x0.f0 x0.f1 x0.f2 x1 = some true := by
  intro v m hv hm
  obtain ⟨kd, n, s⟩ := v
  have hn := wf_i64 hv.2.1
  simp only
  apply Ev.rounds
  have live : ∀ c, c = true → Ev (fun k => conductorlaw04_ValueRead.j0 k m c kd n s) true := by
    rintro c rfl
    refine ev_step (fun k => (conductorlaw04_live.f k).bind fun t => some t) (fun k => by simp only [conductorlaw04_ValueRead.j0]; rw [if_pos trivial]) ?_
    exact Ev.bind ev_live (Ev.now _)
  unfold conductorlaw04_ValueRead.f
  refine Ev.bind ev_live ?_
  simp only [if_true]
  by_cases h1 : (m.size : Int) > 1000
  · simp only [if_pos h1]; exact live _ rfl
  · simp only [if_neg h1]
    obtain ⟨e, he⟩ := right_some kd n s
    rw [he]
    simp only [Option.bind_some]
    by_cases h0 : e = 0
    · subst h0
      have hr := right_of he
      have hlen := prt_len hr
      -- what is asked in the end
      have ask : EndsM (bytesOf m) → Ev (fun k => (value_Print.f k kd n s).bind fun t270 => (if t270.size + m.size ≤ 9223372036854775807 then ((value_Parse.f k (t270 ++ m)).bind fun bt271 => (if (bt271.1 == kd && (bt271.2.1 == n && (bt271.2.2.1.toList == s.toList))) = true then (if bt271.2.2.2.1 = (t270.size : Int) then (some (bt271.2.2.2.2 == 0)) else (some false)) else (some false))) else (none))) true := by
        intro hM
        refine Ev.bind (ev_print hn hr) ?_
        simp only [size_of_nums]
        simp only [if_pos (show (prt kd n s).length + m.size ≤ 9223372036854775807 by omega)]
        have hb : bytesOf (strOfNums (prt kd n s) ++ m) = prt kd n s ++ bytesOf m := by rw [bytes_app, bytes_of_nums (prt_isB _ _ _)]
        refine Ev.bind (ev_parse hn hr (strOfNums (prt kd n s) ++ m) (by rw [size_app, size_of_nums]; omega) (bytesOf m) hM hb) ?_
        refine ev_none (fun k => ?_)
        simp
      refine ev_step _ (fun k => by simp only [conductorlaw04_ValueRead.j0]; rw [if_neg (by decide)]) ?_
      by_cases hmt : m.toList = []
      · simp only [if_pos hmt]
        refine ask (fun c r h => ?_)
        have := toList_nil.1 hmt
        rw [← len_bytes, h] at this
        simp at this
      · simp only [if_neg hmt]
        have hms : 0 < m.size := Nat.pos_of_ne_zero (fun h => hmt (toList_nil.2 h))
        simp only [if_pos (show 0 < (m.size : Int) by omega)]
        obtain ⟨c, hc⟩ : ∃ c, bt m 0 = c := ⟨_, rfl⟩
        rw [hc]
        have hl : bytesOf m = c :: (bytesOf m).drop 1 := by have := drop_bt m 0 hms; rw [List.drop_zero] at this; rw [← hc]; exact this
        have yes : ∀ b, b = true → Ev (fun k => conductorlaw04_ValueRead.j1 k m b kd n s) true := by
          intro b hb
          refine ev_none (fun k => ?_)
          simp only [conductorlaw04_ValueRead.j1]; rw [if_pos hb]
        have no : ¬ (48 ≤ c ∧ c ≤ 57) → ¬ (97 ≤ c ∧ c ≤ 122) → Ev (fun k => conductorlaw04_ValueRead.j1 k m (c == 45) kd n s) true := by
          intro h2 h3
          by_cases h45 : c = 45
          · exact yes _ (by simp [h45])
          · refine ev_step _ (fun k => by simp only [conductorlaw04_ValueRead.j1]; rw [if_neg (by simpa using h45)]) ?_
            refine ask (fun c' r h => ?_)
            rw [hl] at h
            injection h with h4 h5
            subst h4
            unfold inB
            simp [h2, h3, h45]
        by_cases h97 : c ≥ 97
        · simp only [if_pos h97]
          by_cases h122 : c ≤ 122
          · simp only [if_pos h122]; exact yes _ rfl
          · simp only [if_neg h122, if_pos (show c ≥ 48 by omega), if_neg (show ¬ c ≤ 57 by omega)]
            exact no (by omega) (by omega)
        · simp only [if_neg h97]
          by_cases h48 : c ≥ 48
          · simp only [if_pos h48]
            by_cases h57 : c ≤ 57
            · simp only [if_pos h57]; exact yes _ rfl
            · simp only [if_neg h57]; exact no (by omega) (by omega)
          · simp only [if_neg h48]; exact no (by omega) (by omega)
    · exact live _ (by simpa using h0)
end Go.Proofs.Ytekiaempcgjejaa.Pure
