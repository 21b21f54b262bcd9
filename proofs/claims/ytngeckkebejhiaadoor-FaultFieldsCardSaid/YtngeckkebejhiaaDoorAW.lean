/- Bits. -/
import Derived.Test.YtngeckkebejhiaaDoorAU
namespace Go.Proofs.YtngeckkebejhiaaDoor.Asl
open Go Go.RowKit
set_option linter.unusedVariables false
set_option linter.unusedSimpArgs false
variable {P : Program} {nt : Nat} {e : Nat → AV} {h h' : Hp} {K : (Nat → AV) → Hp → Prop} {ops : Array Oper} {l : List Oper} {ty' : TypeId} {pos : String} {af : Array Edge} {dd : Option Tmp}

theorem wrap_u64 {x : Int} (h1 : 0 ≤ x) (h2 : x < 18446744073709551616) : IntKind.wrap .u64 x = x := by
  simp [IntKind.wrap, IntKind.bits, IntKind.signed]; omega
theorem wrap_i32 {x : Int} (h1 : -2147483648 ≤ x) (h2 : x < 2147483648) : IntKind.wrap .i32 x = x := by
  simp [IntKind.wrap, IntKind.bits, IntKind.signed]; omega
theorem wrap_u8' (x : Int) : IntKind.wrap .u8 x = x % 256 := by simp [IntKind.wrap, IntKind.bits, IntKind.signed]
theorem wrap_u64' (x : Int) : IntKind.wrap .u64 x = x % 18446744073709551616 := by simp [IntKind.wrap, IntKind.bits, IntKind.signed]
def andI (k : IntKind) (x y : Int) : Int := k.wrap ((BitVec.ofInt k.bits x) &&& (BitVec.ofInt k.bits y)).toNat
def orI (k : IntKind) (x y : Int) : Int := k.wrap ((BitVec.ofInt k.bits x) ||| (BitVec.ofInt k.bits y)).toNat
def xorI (k : IntKind) (x y : Int) : Int := k.wrap ((BitVec.ofInt k.bits x) ^^^ (BitVec.ofInt k.bits y)).toNat
def shrI (k : IntKind) (x y : Int) : Int := x / 2 ^ (min y.toNat k.bits)
def shlI (k : IntKind) (x y : Int) : Int := k.wrap (x * 2 ^ (min y.toNat k.bits))
theorem mask_nat (m a : Nat) : a &&& (2 ^ m - 1) = a % 2 ^ m := Nat.and_two_pow_sub_one_eq_mod a m
theorem andI_u64 (x : Int) (m : Nat) (hm : m ≤ 64) : andI .u64 x (2 ^ m - 1 : Nat) = x % (2 ^ m : Nat) := by
  have hp : (2 : Nat) ^ m ≤ 2 ^ 64 := Nat.pow_le_pow_right (by decide) hm
  have h1 : 0 < 2 ^ m := Nat.two_pow_pos m
  unfold andI
  rw [BitVec.toNat_and, BitVec.toNat_ofInt, BitVec.toNat_ofInt]
  simp only [IntKind.bits]
  have e : (((2 ^ m - 1 : Nat) : Int) % ((2 ^ 64 : Nat) : Int)).toNat = 2 ^ m - 1 := by
    rw [Int.emod_eq_of_lt (by omega) (by omega)]; omega
  rw [e, mask_nat, wrap_u64 (by omega) (by have := Nat.mod_lt (x % ((2 ^ 64 : Nat) : Int)).toNat h1; omega)]
  rw [Int.natCast_emod, Int.toNat_of_nonneg (Int.emod_nonneg _ (by decide))]
  exact Int.emod_emod_of_dvd _ (Int.natCast_dvd_natCast.2 (Nat.pow_dvd_pow 2 hm))
@[simp] theorem and15_u64 (x : Int) : andI .u64 x 15 = x % 16 := andI_u64 x 4 (by decide)
@[simp] theorem and1_u64 (x : Int) : andI .u64 x 1 = x % 2 := andI_u64 x 1 (by decide)
theorem andI_u8 (x : Int) (m : Nat) (hm : m ≤ 8) : andI .u8 x (2 ^ m - 1 : Nat) = x % (2 ^ m : Nat) := by
  have hp : (2 : Nat) ^ m ≤ 2 ^ 8 := Nat.pow_le_pow_right (by decide) hm
  have h1 : 0 < 2 ^ m := Nat.two_pow_pos m
  unfold andI
  rw [BitVec.toNat_and, BitVec.toNat_ofInt, BitVec.toNat_ofInt]
  simp only [IntKind.bits]
  have e : (((2 ^ m - 1 : Nat) : Int) % ((2 ^ 8 : Nat) : Int)).toNat = 2 ^ m - 1 := by
    rw [Int.emod_eq_of_lt (by omega) (by omega)]; omega
  rw [e, mask_nat, wrap_u8 (by omega) (by have := Nat.mod_lt (x % ((2 ^ 8 : Nat) : Int)).toNat h1; omega)]
  rw [Int.natCast_emod, Int.toNat_of_nonneg (Int.emod_nonneg _ (by decide))]
  exact Int.emod_emod_of_dvd _ (Int.natCast_dvd_natCast.2 (Nat.pow_dvd_pow 2 hm))
@[simp] theorem and127_u8 (x : Int) : andI .u8 x 127 = x % 128 := andI_u8 x 7 (by decide)
set_option maxRecDepth 100000 in
theorem or128_nat : ∀ a, a < 256 → a ||| 128 = a % 128 + 128 := by decide
@[simp] theorem or128_u8 (x : Int) : orI .u8 x 128 = x % 128 + 128 := by
  unfold orI
  rw [BitVec.toNat_or, BitVec.toNat_ofInt, BitVec.toNat_ofInt]
  simp only [IntKind.bits]
  have h1 := Int.emod_lt_of_pos x (b := ((2 ^ 8 : Nat) : Int)) (by decide)
  have h0 := Int.emod_nonneg x (b := ((2 ^ 8 : Nat) : Int)) (by decide)
  rw [show ((128 : Int) % ((2 ^ 8 : Nat) : Int)).toNat = 128 by decide, or128_nat _ (by omega), wrap_u8 (by omega) (by omega)]
  have : ((2 ^ 8 : Nat) : Int) = 256 := rfl
  omega
/-- Bits that do not meet. -/
theorem orI_add (x y : Int) (m : Nat) (hx : 0 ≤ x) (hy : 0 ≤ y) (hym : y < (2 ^ m : Nat)) (hd : x % (2 ^ m : Nat) = 0) (hb : x + y < 18446744073709551616) : orI .u64 x y = x + y := by
  unfold orI
  rw [BitVec.toNat_or, BitVec.toNat_ofInt, BitVec.toNat_ofInt]
  simp only [IntKind.bits]
  have e : ((2 ^ 64 : Nat) : Int) = 18446744073709551616 := rfl
  rw [Int.emod_eq_of_lt hx (by omega), Int.emod_eq_of_lt hy (by omega)]
  obtain ⟨a, rfl⟩ := Int.eq_ofNat_of_zero_le hx
  obtain ⟨b, rfl⟩ := Int.eq_ofNat_of_zero_le hy
  have hb' : b < 2 ^ m := by omega
  have ha : a % 2 ^ m = 0 := by
    have : ((a % 2 ^ m : Nat) : Int) = 0 := by rw [Int.natCast_emod]; exact hd
    omega
  obtain ⟨q, hq⟩ := Nat.dvd_of_mod_eq_zero ha
  have : a ||| b = a + b := by rw [hq]; exact (Nat.two_pow_add_eq_or_of_lt hb' q).symm
  show IntKind.wrap .u64 ((a ||| b : Nat) : Int) = _
  rw [this, wrap_u64 (by omega) (by omega)]; omega

theorem w_and {t ty : TypeId} {x y : Operand} {k : IntKind} {X Y w : Int} (hx : Is (evE e x) (.raw (.int k X))) (hy : Is (evE e y) (.raw (.int k Y))) (hw : Is (andI k X Y) w) (hr : RunK P ops l (putE e dd (.raw (.int k w))) h K) : RunK P ops (⟨dd, .binOp .and t x y ty, ty', pos, af, none⟩ :: l) e h K :=
  w_bin hx hy (by rw [← hw]; simp [IsO, binV, andI]) hr
theorem w_or {t ty : TypeId} {x y : Operand} {k : IntKind} {X Y w : Int} (hx : Is (evE e x) (.raw (.int k X))) (hy : Is (evE e y) (.raw (.int k Y))) (hw : Is (orI k X Y) w) (hr : RunK P ops l (putE e dd (.raw (.int k w))) h K) : RunK P ops (⟨dd, .binOp .or t x y ty, ty', pos, af, none⟩ :: l) e h K :=
  w_bin hx hy (by rw [← hw]; simp [IsO, binV, orI]) hr
theorem w_xor {t ty : TypeId} {x y : Operand} {k : IntKind} {X Y w : Int} (hx : Is (evE e x) (.raw (.int k X))) (hy : Is (evE e y) (.raw (.int k Y))) (hw : Is (xorI k X Y) w) (hr : RunK P ops l (putE e dd (.raw (.int k w))) h K) : RunK P ops (⟨dd, .binOp .xor t x y ty, ty', pos, af, none⟩ :: l) e h K :=
  w_bin hx hy (by rw [← hw]; simp [IsO, binV, xorI]) hr
theorem w_shr {t ty : TypeId} {x y : Operand} {k k' : IntKind} {X Y w : Int} (hx : Is (evE e x) (.raw (.int k X))) (hy : Is (evE e y) (.raw (.int k' Y))) (h0 : 0 ≤ Y) (hw : Is (shrI k X Y) w) (hr : RunK P ops l (putE e dd (.raw (.int k w))) h K) : RunK P ops (⟨dd, .binOp .shr t x y ty, ty', pos, af, none⟩ :: l) e h K :=
  w_bin hx hy (by
    rw [← hw]
    show binV .shr (.int k X) (.int k' Y) = _
    simp only [binV]
    rw [if_neg (by omega)]
    unfold shrI
    rw [Int.fdiv_eq_ediv_of_nonneg _ (Int.le_of_lt (Int.pow_pos (by decide)))]) hr
theorem w_shl {t ty : TypeId} {x y : Operand} {k k' : IntKind} {X Y w : Int} (hx : Is (evE e x) (.raw (.int k X))) (hy : Is (evE e y) (.raw (.int k' Y))) (h0 : 0 ≤ Y) (hw : Is (shlI k X Y) w) (hr : RunK P ops l (putE e dd (.raw (.int k w))) h K) : RunK P ops (⟨dd, .binOp .shl t x y ty, ty', pos, af, none⟩ :: l) e h K :=
  w_bin hx hy (by
    rw [← hw]
    show binV .shl (.int k X) (.int k' Y) = _
    simp only [binV]
    rw [if_neg (by omega)]
    rfl) hr
end Go.Proofs.YtngeckkebejhiaaDoor.Asl
