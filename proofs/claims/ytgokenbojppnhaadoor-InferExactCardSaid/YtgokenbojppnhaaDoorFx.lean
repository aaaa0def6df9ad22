/- Package wide, first part: the contracts of From, minus, of, told, abs. Package fx, first part: Good, GoodF, Word, Small, Narrow. -/
import Derived.Test.YtgokenbojppnhaaDoorBase
import Derived.Shelf.Spec.BitsCarry
import Derived.Laws.BitsAllLaws
import Derived.Lib.Mul64
import Derived.Laws.Bits64b
namespace Go.Proofs.YtgokenbojppnhaaDoor
open Go.RowKit
/-- The upper and the lower half of a number of 128 bits. -/
def hi (x : Int) : Int := x / 18446744073709551616
def lo (x : Int) : Int := x % 18446744073709551616
/-- Modulo 2^128; from 0 to below 2^128. -/
def m128 (x : Int) : Int := x % 340282366920938463463374607431768211456
def U128 (x : Int) : Prop := 0 ≤ x ∧ x < 340282366920938463463374607431768211456
theorem U128.b {x : Int} (h : U128 x) : 0 ≤ hi x ∧ hi x < 18446744073709551616 := by obtain ⟨h1, h2⟩ := h; unfold hi; omega
/-- A number of 128 bits with a sign. -/
def W128 (x : Int) : Prop := -170141183460469231731687303715884105728 ≤ x ∧ x < 170141183460469231731687303715884105728
theorem W128.b {x : Int} (h : W128 x) : -9223372036854775808 ≤ hi x ∧ hi x < 9223372036854775808 := by obtain ⟨h1, h2⟩ := h; unfold hi; omega
theorem hi_neg (x : Int) : decide (hi x < 0) = decide (x < 0) := by unfold hi; congr 1; apply propext; omega
/-- A number of a sign and a size. -/
def sg (neg : Bool) (y : Int) : Int := if neg then -y else y
/-- A number's size. -/
def mag (x : Int) : Int := if x < 0 then -x else x
theorem W128.m {x : Int} (h : W128 x) : U128 (mag x) := by obtain ⟨h1, h2⟩ := h; unfold mag; constructor <;> split <;> omega
theorem lo_nn (x : Int) : 0 ≤ lo x := by unfold lo; omega
theorem lo_lt (x : Int) : lo x < 18446744073709551616 := by unfold lo; omega
theorem hi_lo (x : Int) : hi x * 18446744073709551616 + lo x = x := by unfold hi lo; omega
theorem hi_eq {x a b : Int} (h : a * 18446744073709551616 + b = x) (h1 : 0 ≤ b) (h2 : b < 18446744073709551616) : hi x = a := by unfold hi; omega
theorem lo_eq {x a b : Int} (h : a * 18446744073709551616 + b = x) (h1 : 0 ≤ b) (h2 : b < 18446744073709551616) : lo x = b := by unfold lo; omega
theorem not_u64 (x : Int) (h1 : 0 ≤ x) (h2 : x < 18446744073709551616) : bits .xor .u64 IntKind.u64.max x = 18446744073709551615 - x := by
  obtain ⟨x, rfl⟩ := Int.eq_ofNat_of_zero_le h1
  show IntKind.u64.wrap ((BitVec.ofInt 64 IntKind.u64.max ^^^ BitVec.ofInt 64 (x : Int)).toNat : Int) = _
  have e : BitVec.ofInt 64 IntKind.u64.max = BitVec.allOnes 64 := by decide
  rw [e, BitVec.allOnes_xor, BitVec.toNat_not, ofInt_u64 x (by omega), IntKind.wrap_u64]
  omega
theorem maskN (a : Nat) (ha : a < 18446744073709551616) : bits .and .u64 (a : Int) 4294967295 = ((a % 4294967296 : Nat) : Int) := by
  have h := bits_and_u64_nat a 4294967295 ha (by omega)
  have e : a &&& 4294967295 = a % 4294967296 := Nat.and_two_pow_sub_one_eq_mod a 32
  rw [e] at h
  exact h
theorem divN (a : Nat) : (a : Int) / 4294967296 = ((a / 4294967296 : Nat) : Int) := by omega
theorem mulN (a b : Nat) : (a : Int) * (b : Int) = ((a * b : Nat) : Int) := (Int.natCast_mul a b).symm
theorem addN (a b : Nat) : (a : Int) + (b : Int) = ((a + b : Nat) : Int) := (Int.natCast_add a b).symm
theorem wrapN (a : Nat) (ha : a < 18446744073709551616) : IntKind.u64.wrap (a : Int) = (a : Int) := by rw [IntKind.wrap_u64]; omega
theorem wrapM (a : Nat) : IntKind.u64.wrap (a : Int) = ((a % 18446744073709551616 : Nat) : Int) := by rw [IntKind.wrap_u64]; omega
set_option maxHeartbeats 1000000 in
theorem mul64_nat (x y : Nat) (hx : x < 18446744073709551616) (hy : y < 18446744073709551616) (w : World) :
    Calls Tryd.prog 102 #[.int .u64 x, .int .u64 y] w fun e w' => e = .returned (.tuple #[.int .u64 ((x * y / 18446744073709551616 : Nat) : Int), .int .u64 ((x * y % 18446744073709551616 : Nat) : Int)]) ∧ w' = w := by
  obtain ⟨bd, bt, bw, hhi⟩ := Lib.mul64_hi x y hx hy
  have ba := Lib.half_mul_le (a := x / 4294967296) (b := y / 4294967296) (by omega) (by omega)
  have bb := Lib.half_mul_le (a := x / 4294967296) (b := y % 4294967296) (by omega) (by omega)
  have bc := Lib.half_mul_le (a := x % 4294967296) (b := y / 4294967296) (by omega) (by omega)
  have ba' : x / 4294967296 * (y / 4294967296) < 18446744073709551616 := by omega
  have bb' : x / 4294967296 * (y % 4294967296) < 18446744073709551616 := by omega
  have bc' : x % 4294967296 * (y / 4294967296) < 18446744073709551616 := by omega
  have bh1 : x / 4294967296 * (y / 4294967296) + (x / 4294967296 * (y % 4294967296) + x % 4294967296 * (y % 4294967296) / 4294967296) / 4294967296 < 18446744073709551616 := by omega
  have bh : x / 4294967296 * (y / 4294967296) + (x / 4294967296 * (y % 4294967296) + x % 4294967296 * (y % 4294967296) / 4294967296) / 4294967296 + ((x / 4294967296 * (y % 4294967296) + x % 4294967296 * (y % 4294967296) / 4294967296) % 4294967296 + x % 4294967296 * (y / 4294967296)) / 4294967296 < 18446744073709551616 := by omega
  go_enter Tryd.func102, Tryd.ntmps102
  go_wp2
  simp only [maskN x hx, maskN y hy, divN, mulN, addN, wrapN _ bd, wrapN _ bb', wrapN _ bt, maskN _ bt, wrapN _ bc', wrapN _ bw, wrapN _ ba', wrapN _ bh1, wrapN _ bh, wrapM (x * y)]
  rw [hhi]
  go_ret2
  exact ⟨rfl, rfl⟩
theorem mul64_any (x y : Int) (w : World) (h1 : 0 ≤ x) (h2 : x < 18446744073709551616) (h3 : 0 ≤ y) (h4 : y < 18446744073709551616) :
    Calls Tryd.prog 102 #[.int .u64 x, .int .u64 y] w fun e w' => e = .returned (.tuple #[.int .u64 (hi (x * y)), .int .u64 (lo (x * y))]) ∧ w = w' := by
  obtain ⟨x, rfl⟩ := Int.eq_ofNat_of_zero_le h1
  obtain ⟨y, rfl⟩ := Int.eq_ofNat_of_zero_le h3
  refine (mul64_nat x y (by omega) (by omega) w).mono fun e w' h => ⟨?_, h.2.symm⟩
  rw [h.1]
  simp [hi, lo]
end Go.Proofs.YtgokenbojppnhaaDoor
namespace Go.Proofs.YtgokenbojppnhaaDoor
open Go.RowKit
/-- A word; what is told of a number, and the error with it. -/
def gd (v : Int) : Bool := decide (-140737488355328 < v ∧ v < 140737488355328)
def wv (v : Int) : Int := if gd v then v else 0
def we (v : Int) : Int := if gd v then 0 else 3
def gdF (f : Int) : Bool := decide (8 ≤ f ∧ f ≤ 32)
theorem gd_t {v : Int} (h1 : -140737488355328 < v) (h2 : v < 140737488355328) : gd v = true := by simp [gd, h1, h2]
theorem gd_f {v : Int} (h : v ≤ -140737488355328 ∨ 140737488355328 ≤ v) : gd v = false := by simp [gd]; omega
theorem gd_iff {v : Int} : gd v = true ↔ -140737488355328 < v ∧ v < 140737488355328 := by simp [gd]
theorem gdF_iff {v : Int} : gdF v = true ↔ 8 ≤ v ∧ v ≤ 32 := by simp [gdF]
end Go.Proofs.YtgokenbojppnhaaDoor
