/- Package wide, first part: the contracts of From, minus, of, told, abs. Package fx, first part: Good, GoodF, Word, Small, Narrow. -/
import Derived.Test.YtkegefnpmijfiaaGreatQBase
import Derived.Shelf.Spec.BitsCarry
import Derived.Laws.BitsAllLaws
import Derived.Lib.Mul64
import Derived.Laws.Bits64b
namespace Go.Proofs.YtkegefnpmijfiaaGreat
open Go.RowKit
/-- The upper and the lower half of a number of 128 bits. -/
def hi (x : Int) : Int := x / 18446744073709551616
def lo (x : Int) : Int := x % 18446744073709551616
/-- Modulo 2^128; from 0 to below 2^128. -/
def m128 (x : Int) : Int := x % 340282366920938463463374607431768211456
def U128 (x : Int) : Prop := 0 ≤ x ∧ x < 340282366920938463463374607431768211456
theorem U128.b {x : Int} (h : U128 x) : 0 ≤ hi x ∧ hi x < 18446744073709551616 := by obtain ⟨h1, h2⟩ := h; unfold hi; omega
/-- A number of 128 bits with a sign. -/
def W128 (x : Int) : Prop := -170141183460469231731687303715884105728 ≤ x ∧ x < 170141183460469231731687303715884105728
theorem W128.b {x : Int} (h : W128 x) : -9223372036854775808 ≤ hi x ∧ hi x < 9223372036854775808 := by obtain ⟨h1, h2⟩ := h; unfold hi; omega
/-- A number of a sign and a size. -/
def sg (neg : Bool) (y : Int) : Int := if neg then -y else y
/-- A number's size. -/
def mag (x : Int) : Int := if x < 0 then -x else x
theorem W128.m {x : Int} (h : W128 x) : U128 (mag x) := by obtain ⟨h1, h2⟩ := h; unfold mag; constructor <;> split <;> omega
theorem lo_nn (x : Int) : 0 ≤ lo x := by unfold lo; omega
theorem lo_lt (x : Int) : lo x < 18446744073709551616 := by unfold lo; omega
theorem hi_lo (x : Int) : hi x * 18446744073709551616 + lo x = x := by unfold hi lo; omega
theorem hi_eq {x a b : Int} (h : a * 18446744073709551616 + b = x) (h1 : 0 ≤ b) (h2 : b < 18446744073709551616) : hi x = a := by unfold hi; omega
theorem lo_eq {x a b : Int} (h : a * 18446744073709551616 + b = x) (h1 : 0 ≤ b) (h2 : b < 18446744073709551616) : lo x = b := by unfold lo; omega
theorem From_any (n : Int) (w : World) (h1 : -9223372036854775808 ≤ n) (h2 : n ≤ 9223372036854775807) :
    Calls Tryz.prog 101 #[.int .i64 n] w fun e w' => e = .returned (.agg #[.int .i64 (hi n), .int .u64 (lo n)]) ∧ Ext w w' := by
  go_enter Tryz.func101, Tryz.ntmps101
  go_wp2
  simp [bodyPost, results, Tryz.results101, go_sem]
  refine ⟨⟨?_, ?_⟩, Ext.q⟩
  · unfold hi; omega
  · rw [IntKind.wrap_u64]; rfl
theorem abs_any (n : Int) (w : World) (h1 : -9223372036854775808 ≤ n) (h2 : n ≤ 9223372036854775807) :
    Calls Tryz.prog 301 #[.int .i64 n] w fun e w' => e = .returned (.int .u64 (mag n)) ∧ w = w' := by
  by_cases h : n < 0
  · have g : mag n = -n := by simp [mag, h]
    have G := Lib.hid g
    clear g
    go_enter Tryz.func301, Tryz.ntmps301
    go_wp2
    go_ret
    refine ⟨?_, rfl⟩
    rw [G.out]
    simp [IntKind.wrap_u64]; omega
  · have g : mag n = n := by simp [mag, h]
    have G := Lib.hid g
    clear g
    go_enter Tryz.func301, Tryz.ntmps301
    go_wp2
    go_ret
    refine ⟨?_, rfl⟩
    rw [G.out]
    simp
theorem add64 (x y c : Int) (hx : 0 ≤ x) (hy : 0 ≤ y) (hc0 : 0 ≤ c) (hc : c ≤ 1) (w : World) : (callFunc 237 #[.int .u64 x, .int .u64 y, .int .u64 c]).run Tryz.prog w =
    .ok (.value (.tuple #[.int .u64 (lo (x + y + c)), .int .u64 (hi (x + y + c))])) w := by
  obtain ⟨x, rfl⟩ := Int.eq_ofNat_of_zero_le hx
  obtain ⟨y, rfl⟩ := Int.eq_ofNat_of_zero_le hy
  obtain ⟨c, rfl⟩ := Int.eq_ofNat_of_zero_le hc0
  rw [run_callFunc_extern Tryz.func237 (by kernel_rfl) (by kernel_rfl) (by kernel_rfl) (e := add64Entry) (by kernel_rfl), run_add64 x y c (by omega) (by omega) (by omega) (by omega)]
  simp only [Result.andThen, hi, lo]
theorem sub64 (x y b : Int) (hx : 0 ≤ x) (hy : 0 ≤ y) (hy' : y < 18446744073709551616) (hx' : x < 18446744073709551616) (hb0 : 0 ≤ b) (hb : b ≤ 1) (w : World) : (callFunc 276 #[.int .u64 x, .int .u64 y, .int .u64 b]).run Tryz.prog w =
    .ok (.value (.tuple #[.int .u64 (lo (x - y - b)), .int .u64 (-hi (x - y - b))])) w := by
  obtain ⟨x, rfl⟩ := Int.eq_ofNat_of_zero_le hx
  obtain ⟨y, rfl⟩ := Int.eq_ofNat_of_zero_le hy
  obtain ⟨b, rfl⟩ := Int.eq_ofNat_of_zero_le hb0
  rw [run_callFunc_extern Tryz.func276 (by kernel_rfl) (by kernel_rfl) (by kernel_rfl) (e := sub64Entry) (by kernel_rfl), run_sub64 x y b (by omega)]
  have e1 : (((x + 18446744073709551616 - y - b) % 18446744073709551616 : Nat) : Int) = lo ((x : Int) - y - b) := by unfold lo; omega
  have e2 : ((if x < y + b then 1 else 0 : Nat) : Int) = -hi ((x : Int) - y - b) := by unfold hi; split <;> omega
  rw [e1, e2]
  rfl
/-- The carry or borrow that comes in is the literal 0. -/
theorem add64_0 (x y : Int) (hx : 0 ≤ x) (hy : 0 ≤ y) (w : World) : (callFunc 237 #[.int .u64 x, .int .u64 y, .int .u64 0]).run Tryz.prog w =
    .ok (.value (.tuple #[.int .u64 (lo (x + y)), .int .u64 (hi (x + y))])) w := by
  simpa using add64 x y 0 hx hy (Int.le_refl 0) (by decide) w
theorem sub64_0 (x y : Int) (hx : 0 ≤ x) (hy : 0 ≤ y) (hy' : y < 18446744073709551616) (hx' : x < 18446744073709551616) (w : World) : (callFunc 276 #[.int .u64 x, .int .u64 y, .int .u64 0]).run Tryz.prog w =
    .ok (.value (.tuple #[.int .u64 (lo (x - y)), .int .u64 (-hi (x - y))])) w := by
  simpa using sub64 x y 0 hx hy hy' hx' (Int.le_refl 0) (by decide) w
theorem not_u64 (x : Int) (h1 : 0 ≤ x) (h2 : x < 18446744073709551616) : bits .xor .u64 IntKind.u64.max x = 18446744073709551615 - x := by
  obtain ⟨x, rfl⟩ := Int.eq_ofNat_of_zero_le h1
  show IntKind.u64.wrap ((BitVec.ofInt 64 IntKind.u64.max ^^^ BitVec.ofInt 64 (x : Int)).toNat : Int) = _
  have e : BitVec.ofInt 64 IntKind.u64.max = BitVec.allOnes 64 := by decide
  rw [e, BitVec.allOnes_xor, BitVec.toNat_not, ofInt_u64 x (by omega), IntKind.wrap_u64]
  omega
set_option maxRecDepth 100000 in
theorem minus_any (x : Int) (w : World) (hx : U128 x) :
    Calls Tryz.prog 231 #[.agg #[.int .u64 (hi x), .int .u64 (lo x)]] w fun e w' => e = .returned (.agg #[.int .u64 (hi (m128 (-x))), .int .u64 (lo (m128 (-x)))]) ∧ Ext w w' := by
  have a1 := lo_nn x
  have a2 := lo_lt x
  obtain ⟨b1, b2⟩ := hx.b
  have n1 := not_u64 (lo x) a1 a2
  have n2 := not_u64 (hi x) b1 b2
  have s1 := add64_0 (18446744073709551615 - lo x) 1 (by omega) (by omega)
  go_enter Tryz.func231, Tryz.ntmps231
  go_wp2
  simp [bodyPost, results, Tryz.results231, go_sem]
  obtain ⟨h1, h2⟩ := hx
  exact ⟨⟨by rw [IntKind.wrap_u64]; unfold hi lo m128; omega, by unfold lo m128; omega⟩, Ext.q⟩
theorem of_pos (x : Int) (w : World) (hx : W128 x) (h0 : 0 ≤ x) :
    Calls Tryz.prog 173 #[.agg #[.int .i64 (hi x), .int .u64 (lo x)]] w fun e w' => e = .returned (.tuple #[.bool false, .agg #[.int .u64 (hi x), .int .u64 (lo x)]]) ∧ Ext w w' := by
  have a1 := lo_nn x
  have a2 := lo_lt x
  obtain ⟨b1, b2⟩ := hx.b
  have b3 : 0 ≤ hi x := by unfold hi; omega
  go_enter Tryz.func173, Tryz.ntmps173
  go_wp2
  go_region
  go_wp2
  simp [bodyPost, results, Tryz.results173, go_sem]
  exact Ext.q
theorem of_neg (x : Int) (w : World) (hx : W128 x) (h0 : x < 0) :
    Calls Tryz.prog 173 #[.agg #[.int .i64 (hi x), .int .u64 (lo x)]] w fun e w' => e = .returned (.tuple #[.bool true, .agg #[.int .u64 (hi (-x)), .int .u64 (lo (-x))]]) ∧ Ext w w' := by
  have a1 := lo_nn x
  have a2 := lo_lt x
  obtain ⟨b1, b2⟩ := hx.b
  have b3 : hi x < 0 := by unfold hi; omega
  have hu : U128 (m128 x) := by unfold m128; constructor <;> omega
  have e1 : IntKind.u64.wrap (hi x) = hi (m128 x) := by obtain ⟨h1, h2⟩ := hx; rw [IntKind.wrap_u64]; unfold hi m128; omega
  have e2 : lo x = lo (m128 x) := by unfold lo m128; omega
  have e3 : m128 (-m128 x) = -x := by obtain ⟨h1, h2⟩ := hx; unfold m128; omega
  have C := fun v => minus_any (m128 x) v hu
  rw [e3, ← e1, ← e2] at C
  have C' := Lib.hid C
  clear C e1 e2 e3
  go_enter Tryz.func173, Tryz.ntmps173
  go_wp2_with (go_at_call 231; refine (C'.out _).mono ?_; rintro e v1 ⟨rfl, x1⟩; obtain ⟨c1, f1⟩ := x1.rules; have z1 := x1.size; have lq := fun o => c1 (w.heap.size) o (by first | (simp; done) | (simp; omega) | omega); have mq := fun o => f1 (w.heap.size) o (by first | (simp; done) | (simp; omega) | omega); have k1_0_0 := lq 0; have q1_0_0 := mq 0; have k1_0_1 := lq 1; have q1_0_1 := mq 1; clear lq mq; have lq := fun o => c1 (w.heap.size + 1) o (by first | (simp; done) | (simp; omega) | omega); have mq := fun o => f1 (w.heap.size + 1) o (by first | (simp; done) | (simp; omega) | omega); have k1_1_0 := lq 0; have q1_1_0 := mq 0; have k1_1_1 := lq 1; have q1_1_1 := mq 1; clear lq mq; have z1_0 : w.heap.size < v1.heap.size := (by (try simp at z1); omega); have z1_1 : w.heap.size + 1 < v1.heap.size := (by (try simp at z1); omega); (try simp at z1); clear c1 f1; simp [go_sem, *] at k1_0_0 q1_0_0 k1_0_1 q1_0_1 k1_1_0 q1_1_0 k1_1_1 q1_1_1)
  simp [bodyPost, results, Tryz.results173, go_sem, *]
  exact Ext.q
set_option maxHeartbeats 1000000 in
theorem told_ok (neg : Bool) (x : Int) (w : World) (hx : 0 ≤ x ∧ x < 170141183460469231731687303715884105728) :
    Calls Tryz.prog 286 #[.bool neg, .agg #[.int .u64 (hi x), .int .u64 (lo x)]] w fun e w' => e = .returned (.tuple #[.agg #[.int .i64 (hi (sg neg x)), .int .u64 (lo (sg neg x))], .int .i64 0]) ∧ Ext w w' := by
  have a1 := lo_nn x
  have a2 := lo_lt x
  have b1 : 0 ≤ hi x := by unfold hi; omega
  have b2 : hi x < 9223372036854775808 := by unfold hi; omega
  have d : (hi x / 9223372036854775808 == 1) = false := by rw [beq_eq_false_iff_ne]; omega
  have hu : U128 x := ⟨by omega, by omega⟩
  have C := fun v => minus_any x v hu
  have C' := Lib.hid C
  have e3 : wrap64 (hi (m128 (-x))) = hi (-x) := by unfold wrap64 hi m128; omega
  have e4 : lo (m128 (-x)) = lo (-x) := by unfold lo m128; omega
  have E3 := Lib.hid e3
  have E4 := Lib.hid e4
  clear C hx e3 e4
  have G1 := Lib.hid (show sg true x = -x from rfl)
  have G2 := Lib.hid (show sg false x = x from rfl)
  cases neg
  · rw [G2.out]
    go_enter Tryz.func286, Tryz.ntmps286
    go_wp2
    simp [bodyPost, results, Tryz.results286, go_sem]
    exact Ext.q
  · rw [G1.out]
    go_enter Tryz.func286, Tryz.ntmps286
    go_wp2_with (go_at_call 231; refine (C'.out _).mono ?_; rintro e v1 ⟨rfl, x1⟩; obtain ⟨c1, f1⟩ := x1.rules; have z1 := x1.size; have lq := fun o => c1 (w.heap.size) o (by first | (simp; done) | (simp; omega) | omega); have mq := fun o => f1 (w.heap.size) o (by first | (simp; done) | (simp; omega) | omega); have k1_0_0 := lq 0; have q1_0_0 := mq 0; have k1_0_1 := lq 1; have q1_0_1 := mq 1; clear lq mq; have lq := fun o => c1 (w.heap.size + 1) o (by first | (simp; done) | (simp; omega) | omega); have mq := fun o => f1 (w.heap.size + 1) o (by first | (simp; done) | (simp; omega) | omega); have k1_1_0 := lq 0; have q1_1_0 := mq 0; have k1_1_1 := lq 1; have q1_1_1 := mq 1; clear lq mq; have z1_0 : w.heap.size < v1.heap.size := (by (try simp at z1); omega); have z1_1 : w.heap.size + 1 < v1.heap.size := (by (try simp at z1); omega); (try simp at z1); clear c1 f1; simp [go_sem, *] at k1_0_0 q1_0_0 k1_0_1 q1_0_1 k1_1_0 q1_1_0 k1_1_1 q1_1_1)
    simp [bodyPost, results, Tryz.results286, go_sem, *]
    exact ⟨⟨E3.out, E4.out⟩, Ext.q⟩
theorem size_less (x y : Int) (w : World) :
    Calls Tryz.prog 233 #[.agg #[.int .u64 (hi x), .int .u64 (lo x)], .agg #[.int .u64 (hi y), .int .u64 (lo y)]] w fun e w' => e = .returned (.bool (decide (x < y))) ∧ Ext w w' := by
  have hxx := hi_lo x
  have hyy := hi_lo y
  have a1 := lo_nn x
  have a2 := lo_lt x
  have a3 := lo_nn y
  have a4 := lo_lt y
  rcases Int.lt_trichotomy (hi x) (hi y) with h | h | h
  · have g : decide (x < y) = true := by simp; omega
    have G := Lib.hid g
    clear hxx hyy g
    go_enter Tryz.func233, Tryz.ntmps233
    go_wp2
    go_ret
    exact ⟨by simp [G.out], Ext.q⟩
  · have h1 : (hi x == hi y) = true := by simp [h]
    have h2 : ¬ hi x < hi y := by omega
    by_cases k : lo x < lo y
    · have g : decide (x < y) = true := by simp; omega
      have G := Lib.hid g
      clear hxx hyy g h
      go_enter Tryz.func233, Tryz.ntmps233
      go_wp2
      go_ret
      exact ⟨by simp [G.out], Ext.q⟩
    · have g : decide (x < y) = false := by simp; omega
      have G := Lib.hid g
      clear hxx hyy g h
      go_enter Tryz.func233, Tryz.ntmps233
      go_wp2
      go_ret
      exact ⟨by simp [G.out], Ext.q⟩
  · have g : decide (x < y) = false := by simp; omega
    have h1 : (hi x == hi y) = false := by rw [beq_eq_false_iff_ne]; omega
    have h2 : ¬ hi x < hi y := by omega
    have G := Lib.hid g
    clear hxx hyy g
    go_enter Tryz.func233, Tryz.ntmps233
    go_wp2
    go_ret
    exact ⟨by simp [G.out], Ext.q⟩
theorem size_sub (x y : Int) (w : World) (hx : U128 x) (hy : U128 y) :
    Calls Tryz.prog 234 #[.agg #[.int .u64 (hi x), .int .u64 (lo x)], .agg #[.int .u64 (hi y), .int .u64 (lo y)]] w fun e w' => e = .returned (.agg #[.int .u64 (hi (m128 (x - y))), .int .u64 (lo (m128 (x - y)))]) ∧ Ext w w' := by
  have a1 := lo_nn x
  have a2 := lo_lt x
  have a3 := lo_nn y
  have a4 := lo_lt y
  obtain ⟨b1, b2⟩ := hx.b
  obtain ⟨b3, b4⟩ := hy.b
  have c1 : 0 ≤ -hi (lo x - lo y) := by unfold hi; omega
  have c2 : -hi (lo x - lo y) ≤ 1 := by unfold hi; omega
  have s1 := sub64_0 (lo x) (lo y) a1 a3 a4 a2
  have s2 := sub64 (hi x) (hi y) (-hi (lo x - lo y)) b1 b3 b4 b2 c1 c2
  go_enter Tryz.func234, Tryz.ntmps234
  go_wp2
  simp [bodyPost, results, Tryz.results234, go_sem]
  obtain ⟨h1, h2⟩ := hx
  obtain ⟨h3, h4⟩ := hy
  exact ⟨⟨by unfold hi lo m128; omega, by unfold lo m128; omega⟩, Ext.q⟩
theorem size_next (x : Int) (w : World) (hx : U128 x) :
    Calls Tryz.prog 296 #[.agg #[.int .u64 (hi x), .int .u64 (lo x)]] w fun e w' => e = .returned (.agg #[.int .u64 (hi (m128 (x + 1))), .int .u64 (lo (m128 (x + 1)))]) ∧ Ext w w' := by
  have a1 := lo_nn x
  have a2 := lo_lt x
  obtain ⟨b1, b2⟩ := hx.b
  have s1 := add64_0 (lo x) 1 a1 (by omega)
  go_enter Tryz.func296, Tryz.ntmps296
  go_wp2
  simp [bodyPost, results, Tryz.results296, go_sem]
  obtain ⟨h1, h2⟩ := hx
  exact ⟨⟨by rw [IntKind.wrap_u64]; unfold hi lo m128; omega, by unfold lo m128; omega⟩, Ext.q⟩
theorem maskN (a : Nat) (ha : a < 18446744073709551616) : bits .and .u64 (a : Int) 4294967295 = ((a % 4294967296 : Nat) : Int) := by
  have h := bits_and_u64_nat a 4294967295 ha (by omega)
  have e : a &&& 4294967295 = a % 4294967296 := Nat.and_two_pow_sub_one_eq_mod a 32
  rw [e] at h
  exact h
theorem divN (a : Nat) : (a : Int) / 4294967296 = ((a / 4294967296 : Nat) : Int) := by omega
theorem mulN (a b : Nat) : (a : Int) * (b : Int) = ((a * b : Nat) : Int) := (Int.natCast_mul a b).symm
theorem addN (a b : Nat) : (a : Int) + (b : Int) = ((a + b : Nat) : Int) := (Int.natCast_add a b).symm
theorem wrapN (a : Nat) (ha : a < 18446744073709551616) : IntKind.u64.wrap (a : Int) = (a : Int) := by rw [IntKind.wrap_u64]; omega
theorem wrapM (a : Nat) : IntKind.u64.wrap (a : Int) = ((a % 18446744073709551616 : Nat) : Int) := by rw [IntKind.wrap_u64]; omega
set_option maxHeartbeats 1000000 in
theorem mul64_nat (x y : Nat) (hx : x < 18446744073709551616) (hy : y < 18446744073709551616) (w : World) :
    Calls Tryz.prog 236 #[.int .u64 x, .int .u64 y] w fun e w' => e = .returned (.tuple #[.int .u64 ((x * y / 18446744073709551616 : Nat) : Int), .int .u64 ((x * y % 18446744073709551616 : Nat) : Int)]) ∧ w' = w := by
  obtain ⟨bd, bt, bw, hhi⟩ := Lib.mul64_hi x y hx hy
  have ba := Lib.half_mul_le (a := x / 4294967296) (b := y / 4294967296) (by omega) (by omega)
  have bb := Lib.half_mul_le (a := x / 4294967296) (b := y % 4294967296) (by omega) (by omega)
  have bc := Lib.half_mul_le (a := x % 4294967296) (b := y / 4294967296) (by omega) (by omega)
  have ba' : x / 4294967296 * (y / 4294967296) < 18446744073709551616 := by omega
  have bb' : x / 4294967296 * (y % 4294967296) < 18446744073709551616 := by omega
  have bc' : x % 4294967296 * (y / 4294967296) < 18446744073709551616 := by omega
  have bh1 : x / 4294967296 * (y / 4294967296) + (x / 4294967296 * (y % 4294967296) + x % 4294967296 * (y % 4294967296) / 4294967296) / 4294967296 < 18446744073709551616 := by omega
  have bh : x / 4294967296 * (y / 4294967296) + (x / 4294967296 * (y % 4294967296) + x % 4294967296 * (y % 4294967296) / 4294967296) / 4294967296 + ((x / 4294967296 * (y % 4294967296) + x % 4294967296 * (y % 4294967296) / 4294967296) % 4294967296 + x % 4294967296 * (y / 4294967296)) / 4294967296 < 18446744073709551616 := by omega
  go_enter Tryz.func236, Tryz.ntmps236
  go_wp2
  simp only [maskN x hx, maskN y hy, divN, mulN, addN, wrapN _ bd, wrapN _ bb', wrapN _ bt, maskN _ bt, wrapN _ bc', wrapN _ bw, wrapN _ ba', wrapN _ bh1, wrapN _ bh, wrapM (x * y)]
  rw [hhi]
  go_ret2
  exact ⟨rfl, rfl⟩
theorem mul64_any (x y : Int) (w : World) (h1 : 0 ≤ x) (h2 : x < 18446744073709551616) (h3 : 0 ≤ y) (h4 : y < 18446744073709551616) :
    Calls Tryz.prog 236 #[.int .u64 x, .int .u64 y] w fun e w' => e = .returned (.tuple #[.int .u64 (hi (x * y)), .int .u64 (lo (x * y))]) ∧ w = w' := by
  obtain ⟨x, rfl⟩ := Int.eq_ofNat_of_zero_le h1
  obtain ⟨y, rfl⟩ := Int.eq_ofNat_of_zero_le h3
  refine (mul64_nat x y (by omega) (by omega) w).mono fun e w' h => ⟨?_, h.2.symm⟩
  rw [h.1]
  simp [hi, lo]
end Go.Proofs.YtkegefnpmijfiaaGreat
namespace Go.Proofs.YtkegefnpmijfiaaGreat
open Go.RowKit
/-- A word; what is told of a number, and the error with it. -/
def gd (v : Int) : Bool := decide (-140737488355328 < v ∧ v < 140737488355328)
def wv (v : Int) : Int := if gd v then v else 0
def we (v : Int) : Int := if gd v then 0 else 3
def gdF (f : Int) : Bool := decide (8 ≤ f ∧ f ≤ 32)
theorem gd_t {v : Int} (h1 : -140737488355328 < v) (h2 : v < 140737488355328) : gd v = true := by simp [gd, h1, h2]
theorem gd_f {v : Int} (h : v ≤ -140737488355328 ∨ 140737488355328 ≤ v) : gd v = false := by simp [gd]; omega
theorem gd_iff {v : Int} : gd v = true ↔ -140737488355328 < v ∧ v < 140737488355328 := by simp [gd]
theorem gdF_iff {v : Int} : gdF v = true ↔ 8 ≤ v ∧ v ≤ 32 := by simp [gdF]
theorem good_any (v : Int) (w : World) :
    Calls Tryz.prog 98 #[.int .i64 v] w fun e w' => e = .returned (.bool (gd v)) ∧ w = w' := by
  by_cases h1 : -140737488355328 < v
  · by_cases h2 : v < 140737488355328
    · go_enter Tryz.func98, Tryz.ntmps98
      go_wp2
      go_ret
      exact ⟨by rw [gd_t h1 h2]; rfl, rfl⟩
    · go_enter Tryz.func98, Tryz.ntmps98
      go_wp2
      go_ret
      exact ⟨by rw [gd_f (by omega)]; rfl, rfl⟩
  · go_enter Tryz.func98, Tryz.ntmps98
    go_wp2
    go_ret
    exact ⟨by rw [gd_f (by omega)]; rfl, rfl⟩
theorem goodF_any (v : Int) (w : World) :
    Calls Tryz.prog 99 #[.int .i64 v] w fun e w' => e = .returned (.bool (gdF v)) ∧ w = w' := by
  by_cases h1 : 8 ≤ v
  · by_cases h2 : v ≤ 32
    · have g : gdF v = true := by simp [gdF, h1, h2]
      have G := Lib.hid g
      clear g
      go_enter Tryz.func99, Tryz.ntmps99
      go_wp2
      go_ret
      exact ⟨by rw [G.out]; rfl, rfl⟩
    · have g : gdF v = false := by simp [gdF, h2]
      have G := Lib.hid g
      clear g
      go_enter Tryz.func99, Tryz.ntmps99
      go_wp2
      go_ret
      exact ⟨by rw [G.out]; rfl, rfl⟩
  · have g : gdF v = false := by simp [gdF]; omega
    have G := Lib.hid g
    clear g
    go_enter Tryz.func99, Tryz.ntmps99
    go_wp2
    go_ret
    exact ⟨by rw [G.out]; rfl, rfl⟩
theorem word_any (v : Int) (w : World) :
    Calls Tryz.prog 169 #[.int .i64 v] w fun e w' => e = .returned (.tuple #[.int .i64 (wv v), .int .i64 (we v)]) ∧ w = w' := by
  cases h : gd v
  · go_enter Tryz.func169, Tryz.ntmps169
    go_wp2_with (go_at_call 98; refine (good_any _ _).mono ?_; rintro e w' ⟨rfl, rfl⟩)
    go_ret2
    exact ⟨by simp [wv, we, h], rfl⟩
  · go_enter Tryz.func169, Tryz.ntmps169
    go_wp2_with (go_at_call 98; refine (good_any _ _).mono ?_; rintro e w' ⟨rfl, rfl⟩)
    go_ret2
    exact ⟨by simp [wv, we, h], rfl⟩
theorem small_yes (x : Int) (w : World) (h1 : -9223372036854775808 ≤ x) (h2 : x < 9223372036854775808) :
    Calls Tryz.prog 289 #[.agg #[.int .i64 (hi x), .int .u64 (lo x)]] w fun e w' => e = .returned (.tuple #[.int .i64 x, .bool true]) ∧ Ext w w' := by
  have a1 := lo_nn x
  have a2 := lo_lt x
  have e1 : wrap64 (lo x) = x := by unfold wrap64 lo; omega
  have e2 : (x / 9223372036854775808 != hi x) = false := by unfold hi; simp; omega
  go_enter Tryz.func289, Tryz.ntmps289
  go_wp2
  go_ret2
  exact ⟨by simp [e1], Ext.q⟩
theorem small_no (x : Int) (w : World) (h : x < -9223372036854775808 ∨ 9223372036854775808 ≤ x) :
    Calls Tryz.prog 289 #[.agg #[.int .i64 (hi x), .int .u64 (lo x)]] w fun e w' => e = .returned (.tuple #[.int .i64 0, .bool false]) ∧ Ext w w' := by
  have a1 := lo_nn x
  have a2 := lo_lt x
  have e2 : (wrap64 (lo x) / 9223372036854775808 != hi x) = true := by unfold wrap64 hi lo; simp; omega
  clear h
  go_enter Tryz.func289, Tryz.ntmps289
  go_wp2
  go_ret2
  exact ⟨by simp, Ext.q⟩
theorem narrow_any (x : Int) (w : World) :
    Calls Tryz.prog 247 #[.agg #[.int .i64 (hi x), .int .u64 (lo x)]] w fun e w' => e = .returned (.tuple #[.int .i64 (wv x), .int .i64 (we x)]) ∧ Ext w w' := by
  by_cases h : -9223372036854775808 ≤ x ∧ x < 9223372036854775808
  · obtain ⟨h1, h2⟩ := h
    go_enter Tryz.func247, Tryz.ntmps247
    go_wp2_with (first
      | (go_at_call 289; refine (small_yes x _ h1 h2).mono ?_; rintro e v1 ⟨rfl, x1⟩; obtain ⟨c1, f1⟩ := x1.rules; have z1 := x1.size; have lq := fun o => c1 (w.heap.size) o (by first | (simp; done) | (simp; omega) | omega); have mq := fun o => f1 (w.heap.size) o (by first | (simp; done) | (simp; omega) | omega); have k1_0_0 := lq 0; have q1_0_0 := mq 0; have k1_0_1 := lq 1; have q1_0_1 := mq 1; clear lq mq; have z1_0 : w.heap.size < v1.heap.size := (by (try simp at z1); omega); (try simp at z1); clear c1 f1; simp [go_sem, *] at k1_0_0 q1_0_0 k1_0_1 q1_0_1)
      | (go_at_call 169; refine (word_any _ _).mono ?_; rintro e w' ⟨rfl, rfl⟩))
    go_ret2
    exact ⟨rfl, Ext.q⟩
  · have h' : x < -9223372036854775808 ∨ 9223372036854775808 ≤ x := by omega
    have g : gd x = false := gd_f (by omega)
    have G := Lib.hid g
    clear g h
    go_enter Tryz.func247, Tryz.ntmps247
    go_wp2_with (go_at_call 289; refine (small_no x _ h').mono ?_; rintro e v1 ⟨rfl, x1⟩; obtain ⟨c1, f1⟩ := x1.rules; have z1 := x1.size; have lq := fun o => c1 (w.heap.size) o (by first | (simp; done) | (simp; omega) | omega); have mq := fun o => f1 (w.heap.size) o (by first | (simp; done) | (simp; omega) | omega); have k1_0_0 := lq 0; have q1_0_0 := mq 0; have k1_0_1 := lq 1; have q1_0_1 := mq 1; clear lq mq; have z1_0 : w.heap.size < v1.heap.size := (by (try simp at z1); omega); (try simp at z1); clear c1 f1; simp [go_sem, *] at k1_0_0 q1_0_0 k1_0_1 q1_0_1)
    go_ret2
    exact ⟨by simp [wv, we, G.out], Ext.q⟩
end Go.Proofs.YtkegefnpmijfiaaGreat
