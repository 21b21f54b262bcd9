/- Chapter 15: Refs and keys: pure. -/
import Derived.Test.YtdbdajmgfajcpaaEC
import Derived.Test.YtdbdajmgfajcpaaK5
namespace Go.Proofs.Ytdbdajmgfajcpaa.Asl
open Go Go.RowKit
set_option linter.unusedVariables false
set_option linter.unusedSimpArgs false
set_option maxRecDepth 100000
set_option maxHeartbeats 1000000
def i64s (l : List Int) : List AV := l.map fun n => .raw (.int .i64 n)
@[simp] theorem i64s_len (l : List Int) : (i64s l).length = l.length := by simp [i64s]
@[simp] theorem i64s_get (l : List Int) (i : Nat) : (i64s l)[i]? = (l[i]?).map fun n => AV.raw (.int .i64 n) := by simp [i64s]
@[simp] theorem i64s_noids (l : List Int) : AV.noids (i64s l) = true := by
  rw [AV.noids_iff]; intro x hx
  obtain ⟨n, _, rfl⟩ := List.mem_map.1 hx
  rfl
@[simp] theorem i64s_rows (l : List Int) : AV.rowsOfs (i64s l) = [] := noid_rows.2 _ (i64s_noids l)
@[simp] theorem i64s_deeps (h : Hp) (l : List Int) : AV.deeps h (i64s l) = i64s l := noid_deep.2 _ (i64s_noids l) h
@[simp] theorem i64s_withins (h : Hp) (l : List Int) : AV.withins h (i64s l) = true := (noid_withins h).2 _ (i64s_noids l)
@[simp] theorem i64s_rens (π : Nat → Nat) (l : List Int) : AV.rens π (i64s l) = i64s l := noid_ren.2 _ (i64s_noids l) π
@[simp] theorem i64s_eq_nil {l : List Int} : i64s l = [] ↔ l = [] := by simp [i64s]
@[simp] theorem i64s_app1 (l : List Int) (s : Int) : i64s l ++ [.raw (.int .i64 s)] = i64s (l ++ [s]) := by simp [i64s]
@[simp] theorem i64s_nil : i64s [] = [] := rfl
def RefV.zero : RefV := ⟨0, ⟨#[]⟩, ⟨#[]⟩, ⟨#[]⟩, ⟨#[]⟩, 0, 0, 0⟩
def RefV.of (k : Int) : RefV := ⟨k, ⟨#[]⟩, ⟨#[]⟩, ⟨#[]⟩, ⟨#[]⟩, 0, 0, 0⟩
theorem RefV.eq_iff {a b : RefV} : a = b ↔ a.k = b.k ∧ a.n = b.n ∧ a.y = b.y ∧ a.d = b.d ∧ a.i = b.i ∧ a.t = b.t ∧ a.o = b.o ∧ a.a = b.a := by
  cases a; cases b; simp
instance : DecidableEq RefV := fun a b => decidable_of_iff _ RefV.eq_iff.symm
def code (c : Int) : Int := if c = 110 then 0 else if c = 107 then 1 else if c = 100 then 2 else if c = 105 then 3 else if c = 116 then 4 else if c = 111 then 5 else 6
theorem code_range (c : Int) : 0 ≤ code c ∧ code c ≤ 6 := by unfold code; repeat' split <;> try decide
def codes (k : Int) : List Int := (bytesOf (lay k).1).map code
def getP (r : RefV) (c : Int) : ByteArray := if c = 0 then r.n else if c = 1 then r.y else if c = 2 then r.d else if c = 3 then r.i else if c = 4 then strOfNums (hexs r.t) else if c = 5 then strOfNums (hexs r.o) else strOfNums (hexs r.a)
def setP (r : RefV) (c : Int) (s : ByteArray) : RefV × Bool :=
  if c = 0 then ({ r with n := s }, true) else if c = 1 then ({ r with y := s }, true) else if c = 2 then ({ r with d := s }, true) else if c = 3 then ({ r with i := s }, true)
  else if (digV s).2 ≠ 0 then (r, false) else if c = 4 then ({ r with t := (digV s).1 }, true) else if c = 5 then ({ r with o := (digV s).1 }, true) else ({ r with a := (digV s).1 }, true)
def textsP (r : RefV) : List ByteArray := (codes r.k).map (getP r)
def bareP (r : RefV) : RefV := (codes r.k).foldl (fun x c => (setP x c (getP r c)).1) (.of r.k)
def setL : List Int → List ByteArray → RefV → Option RefV
  | c :: cs, s :: ss, r => if (setP r c s).2 = true then setL cs ss (setP r c s).1 else none
  | _, _, r => some r
def splitV (k : ByteArray) : RefV × Int :=
  if (parseV k).2.2 ≠ 0 then (.zero, (parseV k).2.2) else if (lay (parseV k).1).2 = false ∨ (lay (parseV k).1).1.size ≠ (parseV k).2.1.length then (.zero, 31)
  else match setL (codes (parseV k).1) (parseV k).2.1 (.of (parseV k).1) with | some r => (r, 0) | none => (.zero, 31)
def keyV (r : RefV) : ByteArray × Int := if (lay r.k).2 = false then (⟨#[]⟩, 31) else if r = bareP r then (strOfNums (keyb r.k (textsP r)), 0) else (⟨#[]⟩, 1)
def nth (n : Int) (l : Nat) : Nat := (min (max n 0) l).toNat
def underV (r : RefV) (n : Int) : ByteArray × ByteArray := if (lay r.k).2 = false then (⟨#[]⟩, ⟨#[]⟩) else (strOfNums (keyb r.k ((textsP r).take (nth n (textsP r).length))), strOfNums (after (keyb r.k ((textsP r).take (nth n (textsP r).length)))))
theorem digV_hexs {a : Int} (h : inU a) : digV (strOfNums (hexs a)) = (a, 0) := by
  unfold digV
  rw [if_pos (by rw [size_of_nums, hexs_len]), bytes_of_nums (hexs_isB a), digs_hexs a h.1 h.2]; rfl
/-- The kinds. -/
theorem lay_cases (k : Int) : k = 109 ∨ k = 115 ∨ k = 122 ∨ k = 97 ∨ k = 107 ∨ k = 116 ∨ k = 105 ∨ k = 118 ∨ k = 98 ∨ k = 101 ∨ k = 100 ∨ k = 99 ∨ lay k = (⟨#[]⟩, false) := by
  by_cases h109 : k = 109
  · simp [h109]
  by_cases h115 : k = 115
  · simp [h115]
  by_cases h122 : k = 122
  · simp [h122]
  by_cases h97 : k = 97
  · simp [h97]
  by_cases h107 : k = 107
  · simp [h107]
  by_cases h116 : k = 116
  · simp [h116]
  by_cases h105 : k = 105
  · simp [h105]
  by_cases h118 : k = 118
  · simp [h118]
  by_cases h98 : k = 98
  · simp [h98]
  by_cases h101 : k = 101
  · simp [h101]
  by_cases h100 : k = 100
  · simp [h100]
  by_cases h99 : k = 99
  · simp [h99]
  have : lay k = (⟨#[]⟩, false) := by
    unfold lay
    rw [if_neg h109, if_neg h115, if_neg h122, if_neg h97, if_neg h107, if_neg h116, if_neg h105, if_neg h118, if_neg h98, if_neg h101, if_neg h100, if_neg h99]
  simp [this]
theorem parts_texts (r : RefV) (hr : r.ok) : (partsL (bytesOf (lay r.k).1) r).1 = textsP r := by
  obtain ⟨k, n, y, d, i, t, o, a⟩ := r
  simp only
  rcases lay_cases k with h | h | h | h | h | h | h | h | h | h | h | h | h
  all_goals first | (subst h; rfl) | (simp only [textsP, codes]; rw [h]; rfl)
theorem parts_left (r : RefV) (hr : r.ok) : ((partsL (bytesOf (lay r.k).1) r).2 = .of r.k) ↔ r = bareP r := by
  obtain ⟨k, n, y, d, i, t, o, a⟩ := r
  obtain ⟨h1, h2, h3⟩ := hr
  simp only at h1 h2 h3 ⊢
  have e1 := digV_hexs h1
  have e2 := digV_hexs h2
  have e3 := digV_hexs h3
  rcases lay_cases k with h | h | h | h | h | h | h | h | h | h | h | h | h
  all_goals first
    | (subst h; simp [lay, bareP, codes, bytesOf, code, partsL, stepP, setP, getP, RefV.of, e1, e2, e3]; done)
    | (simp only [bareP, codes]; rw [h]; simp [bytesOf, partsL, RefV.of]; done)
end Go.Proofs.Ytdbdajmgfajcpaa.Asl
