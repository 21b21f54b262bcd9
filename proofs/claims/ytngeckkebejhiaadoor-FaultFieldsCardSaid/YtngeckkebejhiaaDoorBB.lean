/- Plain basics on bytes and texts: no Go here. Texts are read as lists of numbers 0 to 255. -/
import Derived.Test.YtngeckkebejhiaaDoorAS
import Derived.Laws.Strings
namespace Go.Proofs.YtngeckkebejhiaaDoor.Asl
open Go Go.RowKit
set_option linter.unusedVariables false
set_option linter.unusedSimpArgs false
def bytesOf (s : ByteArray) : List Int := s.data.toList.map fun b => (b.toNat : Int)
def strOfNums (xs : List Int) : ByteArray := ⟨(xs.map fun n => UInt8.ofNat n.toNat).toArray⟩
/-- Every element is a byte. -/
def IsB (l : List Int) : Prop := ∀ b ∈ l, 0 ≤ b ∧ b ≤ 255
theorem isB_nil : IsB [] := fun b h => by cases h
theorem isB_cons {b : Int} {l : List Int} : IsB (b :: l) ↔ (0 ≤ b ∧ b ≤ 255) ∧ IsB l := by
  simp [IsB]
theorem isB_app {a b : List Int} : IsB (a ++ b) ↔ IsB a ∧ IsB b := by
  simp only [IsB, List.mem_append]
  exact ⟨fun h => ⟨fun x hx => h x (.inl hx), fun x hx => h x (.inr hx)⟩, fun h x hx => hx.elim (h.1 x) (h.2 x)⟩
theorem isB_take {a : List Int} (h : IsB a) (n : Nat) : IsB (a.take n) := fun b hb => h b (List.mem_of_mem_take hb)
theorem isB_drop {a : List Int} (h : IsB a) (n : Nat) : IsB (a.drop n) := fun b hb => h b (List.mem_of_mem_drop hb)
theorem isB_bytes (s : ByteArray) : IsB (bytesOf s) := by
  intro b hb
  obtain ⟨u, _, rfl⟩ := List.mem_map.1 hb
  have := u.toNat_lt
  omega
theorem len_bytes (s : ByteArray) : (bytesOf s).length = s.size := by rw [bytesOf, List.length_map, Array.length_toList]; rfl
theorem toList_data (s : ByteArray) : s.toList = s.data.toList := ByteArray.toList_eq s
theorem map_inj : ∀ {a b : List UInt8}, a.map (fun b => (b.toNat : Int)) = b.map (fun b => (b.toNat : Int)) → a = b
  | [], [], _ => rfl
  | [], _ :: _, h => by simp at h
  | _ :: _, [], h => by simp at h
  | x :: a, y :: b, h => by
    simp only [List.map_cons, List.cons.injEq] at h
    have h1 : x = y := UInt8.toNat_inj.1 (by omega)
    rw [h1, map_inj h.2]
theorem bytes_inj {s t : ByteArray} (h : bytesOf s = bytesOf t) : s = t := by
  have := map_inj h
  apply ByteArray.ext
  exact Array.toList_inj.1 this
theorem toList_eq_iff {s t : ByteArray} : s.toList = t.toList ↔ bytesOf s = bytesOf t := by
  rw [toList_data, toList_data]
  exact ⟨fun h => by simp only [bytesOf, h], fun h => map_inj h⟩
theorem eq_iff {s t : ByteArray} : s = t ↔ bytesOf s = bytesOf t := ⟨fun h => by rw [h], bytes_inj⟩
theorem beq_toList {s t : ByteArray} : (s.toList == t.toList) = (bytesOf s == bytesOf t) := by
  rw [Bool.eq_iff_iff, beq_iff_eq, beq_iff_eq]; exact toList_eq_iff
theorem toList_lit {s : ByteArray} {l : List UInt8} : s.toList = l ↔ bytesOf s = l.map (fun b => (b.toNat : Int)) := by
  rw [toList_data]
  exact ⟨fun h => by simp only [bytesOf, h], fun h => map_inj h⟩
theorem beq_lit {s : ByteArray} {l : List UInt8} : (s.toList == l) = (bytesOf s == l.map (fun b => (b.toNat : Int))) := by
  rw [Bool.eq_iff_iff, beq_iff_eq, beq_iff_eq]; exact toList_lit
theorem toList_nil {s : ByteArray} : s.toList = [] ↔ s.size = 0 := by
  rw [toList_data, ← len_bytes, bytesOf, List.length_map, List.length_eq_zero_iff]
theorem bytes_app (s t : ByteArray) : bytesOf (s ++ t) = bytesOf s ++ bytesOf t := by
  simp [bytesOf, ByteArray.data_append]
theorem bytes_extract (s : ByteArray) (a b : Nat) : bytesOf (s.extract a b) = ((bytesOf s).drop a).take (b - a) := by
  simp [bytesOf, ByteArray.data_extract, List.map_drop, List.map_take]
theorem bytes_of_nums {xs : List Int} (h : IsB xs) : bytesOf (strOfNums xs) = xs := by
  simp only [bytesOf, strOfNums, List.map_map]
  conv => rhs; rw [← List.map_id xs]
  apply List.map_congr_left
  intro b hb
  have := h b hb
  simp only [Function.comp, id, UInt8.toNat_ofNat']
  omega
theorem nums_of_bytes (s : ByteArray) : strOfNums (bytesOf s) = s := bytes_inj (bytes_of_nums (isB_bytes s))
theorem size_of_nums (xs : List Int) : (strOfNums xs).size = xs.length := by
  rw [← len_bytes]; simp [bytesOf, strOfNums]
theorem bytes_lit (l : List UInt8) : bytesOf ⟨l.toArray⟩ = l.map (fun b => (b.toNat : Int)) := rfl
theorem bytes_empty : bytesOf (⟨#[]⟩ : ByteArray) = [] := rfl
theorem bytes_empty' : bytesOf ByteArray.empty = [] := rfl
theorem size_app (s t : ByteArray) : (s ++ t).size = s.size + t.size := by rw [← len_bytes, bytes_app, List.length_append, len_bytes, len_bytes]
theorem byteAt_at (s : ByteArray) (j : Nat) : byteAt s (j : Int) = ((bytesOf s)[j]?).getD 0 := by
  unfold byteAt bytesOf
  simp
theorem byteAt_range (s : ByteArray) (i : Int) : 0 ≤ byteAt s i ∧ byteAt s i ≤ 255 := by
  unfold byteAt
  cases s.data.toList[i.toNat]? with
  | none => simp
  | some u => have := u.toNat_lt; simp; omega
theorem bt_nat (s : ByteArray) (n : Nat) (h : n < s.size) : (bytesOf s)[n]? = some (byteAt s (n : Int)) := by
  rw [byteAt_at, List.getElem?_eq_getElem (by rw [len_bytes]; exact h)]; rfl
theorem take_succ_bt (s : ByteArray) (n : Nat) (h : n < s.size) : (bytesOf s).take (n + 1) = (bytesOf s).take n ++ [byteAt s (n : Int)] := by
  rw [List.take_add_one, bt_nat s n h]; rfl
theorem drop_byte (s : ByteArray) (n : Nat) (h : n < s.size) : (bytesOf s).drop n = byteAt s (n : Int) :: (bytesOf s).drop (n + 1) := by
  have h' : n < (bytesOf s).length := by rw [len_bytes]; exact h
  rw [List.drop_eq_getElem_cons h']
  have := bt_nat s n h
  rw [List.getElem?_eq_getElem h'] at this
  rw [Option.some.inj this]
/-! numbers -/
theorem wu64 (x : Int) : IntKind.u64.wrap x = x % 18446744073709551616 := by simp [IntKind.wrap, IntKind.bits, IntKind.signed]
theorem wu64_in {x : Int} (h0 : 0 ≤ x) (h1 : x < 18446744073709551616) : IntKind.u64.wrap x = x := by rw [wu64]; omega
theorem wf_u8 {x : Int} (h : (Lit.int .u8 x).wf = true) : 0 ≤ x ∧ x ≤ 255 := by
  simp [Lit.wf, IntKind.min, IntKind.max, IntKind.bits, IntKind.signed] at h; omega
theorem wf_u64 {x : Int} (h : (Lit.int .u64 x).wf = true) : 0 ≤ x ∧ x < 18446744073709551616 := by
  simp [Lit.wf, IntKind.min, IntKind.max, IntKind.bits, IntKind.signed] at h; omega
theorem wf_i64 {x : Int} (h : (Lit.int .i64 x).wf = true) : -9223372036854775808 ≤ x ∧ x ≤ 9223372036854775807 := by
  simp [Lit.wf, IntKind.min, IntKind.max, IntKind.bits, IntKind.signed] at h; omega
theorem wf_i32 {x : Int} (h : (Lit.int .i32 x).wf = true) : -2147483648 ≤ x ∧ x ≤ 2147483647 := by
  simp [Lit.wf, IntKind.min, IntKind.max, IntKind.bits, IntKind.signed] at h; omega

/-! lists of numbers in order -/
def ltb : List Int → List Int → Bool
  | _, [] => false
  | [], _ :: _ => true
  | a :: x, b :: y => decide (a < b) || (a == b && ltb x y)
theorem less_ltb : ∀ a b : List UInt8, Op.bytesLess a b = ltb (a.map (fun b => (b.toNat : Int))) (b.map (fun b => (b.toNat : Int)))
  | [], [] => rfl
  | [], _ :: _ => rfl
  | _ :: _, [] => rfl
  | x :: a, y :: b => by
    simp only [Op.bytesLess, List.map_cons, ltb]
    rw [less_ltb a b]
    congr 1
    · exact decide_eq_decide.2 (by rw [UInt8.lt_iff_toNat_lt]; omega)
    · congr 1
      rw [Bool.eq_iff_iff, beq_iff_eq, beq_iff_eq, ← UInt8.toNat_inj]; omega
theorem less_bytes (s t : ByteArray) : Op.bytesLess s.toList t.toList = ltb (bytesOf s) (bytesOf t) := by
  rw [toList_data, toList_data]; exact less_ltb _ _
theorem ltb_nil (x : List Int) : ltb x [] = false := by cases x <;> rfl
theorem ltb_irr : ∀ x : List Int, ltb x x = false
  | [] => rfl
  | a :: x => by simp [ltb, ltb_irr x]
theorem ltb_cons (a : Int) (x y : List Int) : ltb (a :: x) (a :: y) = ltb x y := by simp [ltb]
theorem ltb_lt {a b : Int} (h : a < b) (x y : List Int) : ltb (a :: x) (b :: y) = true := by simp [ltb, h]
theorem ltb_gt {a b : Int} (h : b < a) (x y : List Int) : ltb (a :: x) (b :: y) = false := by
  have h1 : ¬ a < b := by omega
  have h2 : (a == b) = false := by simp; omega
  simp [ltb, h1, h2]
theorem ltb_app (c x y : List Int) : ltb (c ++ x) (c ++ y) = ltb x y := by
  induction c with
  | nil => rfl
  | cons a c ih => simp only [List.cons_append, ltb_cons, ih]
theorem ltb_total : ∀ x y : List Int, ltb x y = false → ltb y x = false → x = y
  | [], [], _, _ => rfl
  | [], _ :: _, h, _ => by simp [ltb] at h
  | _ :: _, [], _, h => by simp [ltb] at h
  | a :: x, b :: y, h, h' => by
    rcases Int.lt_trichotomy a b with h1 | h1 | h1
    · rw [ltb_lt h1] at h; cases h
    · subst h1
      rw [ltb_cons] at h h'
      rw [ltb_total x y h h']
    · rw [ltb_lt h1] at h'; cases h'
theorem ltb_asymm : ∀ x y : List Int, ltb x y = true → ltb y x = false
  | [], [], _ => rfl
  | [], _ :: _, _ => rfl
  | _ :: _, [], h => by simp [ltb] at h
  | a :: x, b :: y, h => by
    rcases Int.lt_trichotomy a b with h1 | h1 | h1
    · exact ltb_gt h1 _ _
    · subst h1
      rw [ltb_cons] at h ⊢
      exact ltb_asymm x y h
    · rw [ltb_gt h1] at h; cases h
theorem ltb_trans : ∀ x y z : List Int, ltb x y = true → ltb y z = true → ltb x z = true
  | _, _, [], _, h => by rw [ltb_nil] at h; cases h
  | _, [], _ :: _, h, _ => by rw [ltb_nil] at h; cases h
  | [], _ :: _, _ :: _, _, _ => rfl
  | a :: x, b :: y, c :: z, h, h' => by
    rcases Int.lt_trichotomy a b with h1 | h1 | h1
    · rcases Int.lt_trichotomy b c with h2 | h2 | h2
      · exact ltb_lt (by omega) _ _
      · exact ltb_lt (by omega) _ _
      · rw [ltb_gt h2] at h'; cases h'
    · subst h1
      rcases Int.lt_trichotomy a c with h2 | h2 | h2
      · exact ltb_lt (by omega) _ _
      · subst h2
        rw [ltb_cons] at h h' ⊢
        exact ltb_trans x y z h h'
      · rw [ltb_gt h2] at h'; cases h'
    · rw [ltb_gt h1] at h; cases h

end Go.Proofs.YtngeckkebejhiaaDoor.Asl
