/- wide.Shift, by fewer than 64 bits; what it tells. -/
import Derived.Test.YtjmecongccjcgaaFx
import Derived.Test.YtjmecongccjcgaaLeft
namespace Go.Proofs.Ytjmecongccjcgaa
open Go.RowKit
/-- 2^n, closed to the walk. -/
def p2 (n : Int) : Int := 2 ^ n.toNat
theorem p2_pos (n : Int) : 0 < p2 n := pow_pos' _
/-- m / d to the nearest, of two that are as near the even one; m from 0 on, d above 0. -/
def near0 (m d : Int) : Int := if d - m % d < m % d ∨ (d - m % d = m % d ∧ m / d % 2 = 1) then m / d + 1 else m / d
def near (x d : Int) : Int := if x < 0 then -near0 (-x) d else near0 x d
theorem size_sub' (x y : Int) (w : World) (hx : U128 x) (hy : U128 y) (h : 0 ≤ x - y) :
    Calls Try.prog 152 #[.agg #[.int .u64 (hi x), .int .u64 (lo x)], .agg #[.int .u64 (hi y), .int .u64 (lo y)]] w fun e w' => e = .returned (.agg #[.int .u64 (hi (x - y)), .int .u64 (lo (x - y))]) ∧ Ext w w' := by
  have e : m128 (x - y) = x - y := by obtain ⟨h1, h2⟩ := hx; obtain ⟨h3, h4⟩ := hy; unfold m128; omega
  have := size_sub x y w hx hy
  rwa [e] at this
theorem size_next' (x : Int) (w : World) (h0 : 0 ≤ x) (h : x < 170141183460469231731687303715884105728) :
    Calls Try.prog 155 #[.agg #[.int .u64 (hi x), .int .u64 (lo x)]] w fun e w' => e = .returned (.agg #[.int .u64 (hi (x + 1)), .int .u64 (lo (x + 1))]) ∧ Ext w w' := by
  have e : m128 (x + 1) = x + 1 := by unfold m128; omega
  have := size_next x w ⟨h0, by omega⟩
  rwa [e] at this
theorem left_one (n : Int) (w : World) (hn : 0 ≤ n) (hn2 : n ≤ 126) :
    Calls Try.prog 140 #[.agg #[.int .i64 (hi 1), .int .u64 (lo 1)], .int .i64 n] w fun e w' => e = .returned (.tuple #[.agg #[.int .i64 (hi (p2 n)), .int .u64 (lo (p2 n))], .int .i64 0]) ∧ Ext w w' := by
  have h : (2 : Int) ^ n.toNat ≤ 2 ^ 126 := by
    have : (2 : Int) ^ 126 = 2 ^ n.toNat * 2 ^ (126 - n.toNat) := by rw [← Int.pow_add]; congr 1; omega
    have p := pow_pos' (126 - n.toNat)
    have q := pow_pos' n.toNat
    rw [this]
    have := Int.mul_le_mul_of_nonneg_left (show (1 : Int) ≤ 2 ^ (126 - n.toNat) by omega) (Int.le_of_lt q)
    rwa [Int.mul_one] at this
  have := left_ok 1 n w ⟨by omega, by omega⟩ hn hn2 (by
    simp only [mag]
    rw [show ((2 : Int) ^ 126) = 85070591730234615865843651857942052864 from rfl] at h
    simp
    omega)
  rwa [Int.one_mul] at this
theorem p2_le (n : Int) (hn2 : n ≤ 126) : p2 n ≤ 85070591730234615865843651857942052864 := by
  have h : (2 : Int) ^ n.toNat ≤ 2 ^ 126 := by
    have : (2 : Int) ^ 126 = 2 ^ n.toNat * 2 ^ (126 - n.toNat) := by rw [← Int.pow_add]; congr 1; omega
    have p := pow_pos' (126 - n.toNat)
    have q := pow_pos' n.toNat
    rw [this]
    have := Int.mul_le_mul_of_nonneg_left (show (1 : Int) ≤ 2 ^ (126 - n.toNat) by omega) (Int.le_of_lt q)
    rwa [Int.mul_one] at this
  rw [show ((2 : Int) ^ 126) = 85070591730234615865843651857942052864 from rfl] at h
  exact h
theorem of_p2 (n : Int) (w : World) (hn2 : n ≤ 126) :
    Calls Try.prog 149 #[.agg #[.int .i64 (hi (p2 n)), .int .u64 (lo (p2 n))]] w fun e w' => e = .returned (.tuple #[.bool false, .agg #[.int .u64 (hi (p2 n)), .int .u64 (lo (p2 n))]]) ∧ Ext w w' := by
  have h := p2_le n hn2
  have h0 := p2_pos n
  exact of_pos (p2 n) w ⟨by omega, by omega⟩ (by omega)
theorem and_mask (a : Int) (k : Nat) (h1 : 0 ≤ a) (h2 : a < 18446744073709551616) (hk : k ≤ 64) : bits .and .u64 a (2 ^ k - 1) = a % 2 ^ k := by
  obtain ⟨a, rfl⟩ := Int.eq_ofNat_of_zero_le h1
  have p : 2 ^ k ≤ 2 ^ 64 := Nat.pow_le_pow_right (by omega) hk
  have p1 : 0 < 2 ^ k := Nat.pow_pos (by omega)
  have e : ((2 : Int) ^ k - 1) = ((2 ^ k - 1 : Nat) : Int) := by rw [Int.natCast_sub (by omega)]; simp
  rw [e, u64_and_nat a (2 ^ k - 1) (by omega) (by omega), Nat.and_two_pow_sub_one_eq_mod]
  simp
theorem shr_lo (m n : Int) (hm : U128 m) (hn : 1 ≤ n) (hn2 : n < 64) :
    hi m / 2 ^ n.toNat = hi (m / p2 n) ∧ bits .or .u64 (IntKind.u64.wrap (hi m * 2 ^ (64 - n).toNat)) (lo m / 2 ^ n.toNat) = lo (m / p2 n) ∧
    bits .and .u64 (lo m) (IntKind.u64.wrap (lo (p2 n) - 1)) = lo (m % p2 n) ∧ hi (m % p2 n) = 0 := by
  obtain ⟨k, rfl⟩ := Int.eq_ofNat_of_zero_le (show 0 ≤ n by omega)
  have e : ((64 : Int) - (k : Int)).toNat = 64 - k := by omega
  unfold p2
  rw [e, Int.toNat_natCast] at *
  have hk : k ≤ 64 := by omega
  have p := pow_split k hk
  have pm := and_mask (lo m) k (lo_nn m) (lo_lt m) hk
  have p1 := pow_pos' k
  have p2 := pow_pos' (64 - k)
  obtain ⟨b1, b2⟩ := hm.b
  have q2 : (2 : Int) ^ (64 - k) = 2 * 2 ^ (63 - k) := by
    rw [← Int.pow_succ']; congr 1; omega
  have q3 := pow_pos' (63 - k)
  generalize hP : (2 : Int) ^ k = P at *
  generalize hQ : (2 : Int) ^ (64 - k) = Q at *
  generalize (2 : Int) ^ (63 - k) = R at *
  have hPlt : P < 18446744073709551616 := by
    have := Int.mul_le_mul_of_nonneg_left (show (2 : Int) ≤ Q by omega) (Int.le_of_lt p1)
    omega
  have hl := hi_lo m
  have l0 := lo_nn m
  have l1 := lo_lt m
  -- hi m = P a + r, lo m = P b + s
  have d := Int.mul_ediv_add_emod (hi m) P
  have d0 := Int.emod_nonneg (hi m) (Int.ne_of_gt p1)
  have d1 := Int.emod_lt_of_pos (hi m) p1
  have f := Int.mul_ediv_add_emod (lo m) P
  have f0 := Int.emod_nonneg (lo m) (Int.ne_of_gt p1)
  have f1 := Int.emod_lt_of_pos (lo m) p1
  have a0 : 0 ≤ hi m / P := Int.ediv_nonneg b1 (Int.le_of_lt p1)
  have c0 : 0 ≤ lo m / P := Int.ediv_nonneg l0 (Int.le_of_lt p1)
  have c1 : lo m / P < Q := by
    apply Int.ediv_lt_of_lt_mul p1
    rw [Int.mul_comm, p]; exact l1
  have r0 : 0 ≤ hi m % P * Q := Int.mul_nonneg d0 (Int.le_of_lt p2)
  have r1 : hi m % P * Q + Q ≤ 18446744073709551616 := by
    have h := Int.mul_le_mul_of_nonneg_right (show hi m % P + 1 ≤ P by omega) (Int.le_of_lt p2)
    rw [p, Int.add_mul, Int.one_mul] at h
    exact h
  -- m = P (a 2^64 + r Q + b) + s
  have key : P * (hi m / P * 18446744073709551616 + (hi m % P * Q + lo m / P)) + lo m % P = m := by
    have h1 : P * (hi m / P * 18446744073709551616 + (hi m % P * Q + lo m / P)) = P * (hi m / P) * 18446744073709551616 + hi m % P * (P * Q) + P * (lo m / P) := by
      rw [Int.mul_add, Int.mul_add, ← Int.mul_assoc, Int.mul_left_comm P (hi m % P) Q]
      omega
    rw [h1, p]
    generalize P * (hi m / P) = A at *
    generalize P * (lo m / P) = B at *
    omega
  have hdiv : m / P = hi m / P * 18446744073709551616 + (hi m % P * Q + lo m / P) := by
    rw [← key, Int.add_comm, Int.add_mul_ediv_left _ _ (Int.ne_of_gt p1), Int.ediv_eq_zero_of_lt f0 f1, Int.zero_add]
    rw [Int.add_comm (lo m % P), key]
  have hmod : m % P = lo m % P := by
    have := Int.mul_ediv_add_emod m P
    rw [hdiv] at this
    generalize P * (hi m / P * 18446744073709551616 + (hi m % P * Q + lo m / P)) = A at *
    omega
  refine ⟨?_, ?_, ?_, ?_⟩
  · rw [hdiv]; exact (hi_eq rfl (by omega) (by omega)).symm
  · have w1 : IntKind.u64.wrap (hi m * Q) = hi m % P * Q := by
      rw [IntKind.wrap_u64]
      have h2 : hi m * Q = hi m % P * Q + 18446744073709551616 * (hi m / P) := by
        have : hi m * Q = (P * (hi m / P) + hi m % P) * Q := by rw [d]
        rw [this, Int.add_mul, Int.mul_right_comm, p]
        omega
      rw [h2, Int.add_mul_emod_self_left, Int.emod_eq_of_lt r0 (by omega)]
    rw [w1, or_disj _ _ (64 - k) r0 c0 (by rw [hQ]; exact c1) (by rw [hQ]; exact Int.mul_emod_left _ _) (by omega) (by omega), hdiv]
    exact (lo_eq rfl (by omega) (by omega)).symm
  · have e1 : lo P = P := by unfold lo; omega
    have e2 : lo (m % P) = m % P := by unfold lo; rw [hmod]; omega
    rw [e1, e2, hmod, IntKind.wrap_u64, Int.emod_eq_of_lt (by omega) (by omega)]; exact pm
  · unfold hi; rw [hmod]; omega
theorem shr_hi (m n : Int) (hm : U128 m) (hn : 64 ≤ n) (hn2 : n ≤ 126) :
    hi m / 2 ^ (n - 64).toNat = lo (m / p2 n) ∧ hi (m / p2 n) = 0 ∧ bits .and .u64 (hi m) (IntKind.u64.wrap (hi (p2 n) - 1)) = hi (m % p2 n) ∧ lo m = lo (m % p2 n) := by
  obtain ⟨k, rfl⟩ : ∃ k : Nat, n = 64 + k := ⟨(n - 64).toNat, by omega⟩
  have e1 : ((64 : Int) + k - 64).toNat = k := by omega
  have e2 : ((64 : Int) + k).toNat = 64 + k := by omega
  unfold p2
  rw [e1, e2]
  have e : (2 : Int) ^ (64 + k) = 2 ^ k * 18446744073709551616 := by rw [Int.pow_add, Int.mul_comm]; rfl
  obtain ⟨b1, b2⟩ := hm.b
  have pm := and_mask (hi m) k b1 b2 (by omega)
  have p1 := pow_pos' k
  have q := pow_split k (by omega)
  have q4 := pow_pos' (64 - k)
  rw [e]
  generalize (2 : Int) ^ k = P at *
  generalize (2 : Int) ^ (64 - k) = Q at *
  have hl := hi_lo m
  have l0 := lo_nn m
  have l1 := lo_lt m
  have d := Int.mul_ediv_add_emod (hi m) P
  have d0 := Int.emod_nonneg (hi m) (Int.ne_of_gt p1)
  have d1 := Int.emod_lt_of_pos (hi m) p1
  have a0 : 0 ≤ hi m / P := Int.ediv_nonneg b1 (Int.le_of_lt p1)
  have a1 : hi m / P ≤ hi m := Int.ediv_le_self _ b1
  have key : P * 18446744073709551616 * (hi m / P) + (hi m % P * 18446744073709551616 + lo m) = m := by
    rw [Int.mul_right_comm]
    generalize P * (hi m / P) = A at *
    omega
  have pp : 0 < P * 18446744073709551616 := by omega
  have s0 : 0 ≤ hi m % P * 18446744073709551616 + lo m := by omega
  have s1 : hi m % P * 18446744073709551616 + lo m < P * 18446744073709551616 := by omega
  have hdiv : m / (P * 18446744073709551616) = hi m / P := by
    have : m = (hi m % P * 18446744073709551616 + lo m) + P * 18446744073709551616 * (hi m / P) := by omega
    rw [this, Int.add_mul_ediv_left _ _ (Int.ne_of_gt pp), Int.ediv_eq_zero_of_lt s0 s1, Int.zero_add]
    rw [← this]
  have hmod : m % (P * 18446744073709551616) = hi m % P * 18446744073709551616 + lo m := by
    have := Int.mul_ediv_add_emod m (P * 18446744073709551616)
    rw [hdiv] at this
    generalize P * 18446744073709551616 * (hi m / P) = A at *
    omega
  refine ⟨?_, ?_, ?_, ?_⟩
  · rw [hdiv]; generalize hi m / P = A at *; unfold lo; omega
  · rw [hdiv]; exact hi_eq (b := hi m / P) (by omega) a0 (by omega)
  · rw [hmod]
    have h1 : hi (P * 18446744073709551616) = P := by unfold hi; omega
    have q5 : P ≤ 18446744073709551616 := by
      rw [← q]
      have := Int.mul_le_mul_of_nonneg_left (show (1 : Int) ≤ Q by omega) (Int.le_of_lt p1)
      rwa [Int.mul_one] at this
    rw [h1, IntKind.wrap_u64, Int.emod_eq_of_lt (by omega) (by omega), pm]
    exact (hi_eq rfl l0 l1).symm
  · rw [hmod]; exact (lo_eq rfl l0 l1).symm
theorem rest_facts (m d : Int) (h0 : 0 ≤ m) (hd : 0 < d) : 0 ≤ m / d ∧ 0 ≤ m % d ∧ m % d < d ∧ m / d ≤ m :=
  ⟨Int.ediv_nonneg h0 (Int.le_of_lt hd), Int.emod_nonneg _ (Int.ne_of_gt hd), Int.emod_lt_of_pos _ hd, Int.ediv_le_self _ h0⟩
theorem near0_up {m d : Int} (h : d - m % d < m % d ∨ (d - m % d = m % d ∧ m / d % 2 = 1)) : near0 m d = m / d + 1 := by unfold near0; rw [if_pos h]
theorem near0_down {m d : Int} (h : ¬ (d - m % d < m % d ∨ (d - m % d = m % d ∧ m / d % 2 = 1))) : near0 m d = m / d := by unfold near0; rw [if_neg h]
theorem near_mag (x d : Int) : near x d = sg (decide (x < 0)) (near0 (mag x) d) := by
  unfold near mag sg
  by_cases h : x < 0 <;> simp [h]
theorem lo_mod2 (q : Int) : lo q % 2 = q % 2 := by unfold lo; omega
theorem near0_nn {m d : Int} (h0 : 0 ≤ m) (hd : 0 < d) : 0 ≤ near0 m d := by
  have := Int.ediv_nonneg h0 (Int.le_of_lt hd)
  unfold near0; split <;> omega
set_option maxHeartbeats 2000000 in
theorem shift_lo (x n : Int) (w : World) (hx : W128 x) (hn : 1 ≤ n) (hn2 : n < 64) :
    Calls Try.prog 146 #[.agg #[.int .i64 (hi x), .int .u64 (lo x)], .int .i64 n] w fun e w' => e = .returned (.agg #[.int .i64 (hi (near x (p2 n))), .int .u64 (lo (near x (p2 n)))]) ∧ Ext w w' := by
  have O := Lib.hid (fun v => of_any x v hx)
  have OP := Lib.hid (fun v => of_p2 n v (by omega))
  have LO := Lib.hid (fun v => left_one n v (by omega) (by omega))
  have hm := hx.m
  obtain ⟨b1, b2⟩ := hm.b
  have a1 := lo_nn (mag x)
  have a2 := lo_lt (mag x)
  obtain ⟨s1, s2, s3, s4⟩ := shr_lo (mag x) n hm hn hn2
  have hp := p2_pos n
  have hp2 := p2_le n (by omega)
  obtain ⟨r0, r1, r2, r3⟩ := rest_facts (mag x) (p2 n) hm.1 hp
  have hq2 : mag x / p2 n < 170141183460469231731687303715884105728 := by
    have h2 : 2 ≤ p2 n := by
      unfold p2
      obtain ⟨k, rfl⟩ : ∃ k : Nat, n = 1 + k := ⟨(n - 1).toNat, by omega⟩
      have : ((1 : Int) + k).toNat = 1 + k := by omega
      rw [this, Int.pow_add]
      have := pow_pos' k
      omega
    have h3 := Int.mul_ediv_add_emod (mag x) (p2 n)
    have h4 := Int.mul_le_mul_of_nonneg_right h2 r0
    have h5 := hm.2
    generalize p2 n * (mag x / p2 n) = A at *
    omega
  have sb := fun v => size_sub' (p2 n) (mag x % p2 n) v ⟨by omega, by omega⟩ ⟨r1, by omega⟩ (by omega)
  have sl := fun v => size_less (p2 n - mag x % p2 n) (mag x % p2 n) v
  have hL : hi (p2 n - mag x % p2 n) = 0 := by
    have h63 : p2 n < 18446744073709551616 := by
      unfold p2
      have a := pow_split n.toNat (by omega)
      have b := pow_pos' (64 - n.toNat)
      have c := pow_pos' n.toNat
      have e : (2 : Int) ^ (64 - n.toNat) = 2 * 2 ^ (63 - n.toNat) := by rw [← Int.pow_succ']; congr 1; omega
      have f := pow_pos' (63 - n.toNat)
      have g := Int.mul_le_mul_of_nonneg_left (show (2 : Int) ≤ 2 ^ (64 - n.toNat) by omega) (Int.le_of_lt c)
      omega
    unfold hi; omega
  rw [s4] at sb
  rw [hL] at sb
  rw [s4, hL] at sl
  have LL := Lib.hid (show lo (p2 n - mag x % p2 n) = p2 n - mag x % p2 n ∧ lo (mag x % p2 n) = mag x % p2 n from
    ⟨by have := hi_lo (p2 n - mag x % p2 n); omega, by have := hi_lo (mag x % p2 n); omega⟩)
  clear hL
  have SB := Lib.hid sb
  have SL := Lib.hid sl
  clear sb sl s4
  have SN := Lib.hid (fun v => size_next' (mag x / p2 n) v r0 hq2)
  have hu1 : 0 ≤ mag x / p2 n + 1 ∧ mag x / p2 n + 1 < 170141183460469231731687303715884105728 := by
    have h2 : 2 ≤ p2 n := by
      unfold p2
      obtain ⟨k, rfl⟩ : ∃ k : Nat, n = 1 + k := ⟨(n - 1).toNat, by omega⟩
      have : ((1 : Int) + k).toNat = 1 + k := by omega
      rw [this, Int.pow_add]
      have := pow_pos' k
      omega
    have h3 := Int.mul_ediv_add_emod (mag x) (p2 n)
    have h4 := Int.mul_le_mul_of_nonneg_right h2 r0
    have h5 : mag x ≤ 170141183460469231731687303715884105728 := by obtain ⟨h6, h7⟩ := hx; unfold mag; split <;> omega
    generalize p2 n * (mag x / p2 n) = A at *
    omega
  have TU := Lib.hid (fun v => told_ok (decide (x < 0)) (mag x / p2 n + 1) v hu1)
  have TD := Lib.hid (fun v => told_ok (decide (x < 0)) (mag x / p2 n) v ⟨r0, hq2⟩)
  have NM := Lib.hid (near_mag x (p2 n))
  have L2 := Lib.hid (lo_mod2 (mag x / p2 n))
  have lq := lo_nn (mag x / p2 n)
  clear hu1 hm
  have e1 : IntKind.i64.wrap (64 - n) = 64 - n := IntWalk.i64_in _ (by omega)
  have e2 : 0 ≤ 64 - n := by omega
  go_enter Try.func146, Try.ntmps146
  go_wp2_with fail; refine (From_any 1 _ (by omega) (by omega)).mono ?_; rintro e v1 ⟨rfl, x1⟩; obtain ⟨c1, f1⟩ := x1.rules; have z1 := x1.size; have k1_0_0 := c1 (w.heap.size) 0 (by first | (simp; done) | (simp; omega) | omega); have q1_0_0 := f1 (w.heap.size) 0 (by first | (simp; done) | (simp; omega) | omega); have k1_0_1 := c1 (w.heap.size) 1 (by first | (simp; done) | (simp; omega) | omega); have q1_0_1 := f1 (w.heap.size) 1 (by first | (simp; done) | (simp; omega) | omega); have k1_1_0 := c1 (w.heap.size + 1) 0 (by first | (simp; done) | (simp; omega) | omega); have q1_1_0 := f1 (w.heap.size + 1) 0 (by first | (simp; done) | (simp; omega) | omega); have k1_1_1 := c1 (w.heap.size + 1) 1 (by first | (simp; done) | (simp; omega) | omega); have q1_1_1 := f1 (w.heap.size + 1) 1 (by first | (simp; done) | (simp; omega) | omega); have z1_0 : w.heap.size < v1.heap.size := (by (try simp at z1); omega); have z1_1 : w.heap.size + 1 < v1.heap.size := (by (try simp at z1); omega); (try simp at z1); clear c1 f1; simp [go_sem, *] at k1_0_0 q1_0_0 k1_0_1 q1_0_1 k1_1_0 q1_1_0 k1_1_1 q1_1_1
  go_wp2_with fail; refine (LO.out _).mono ?_; rintro e v2 ⟨rfl, x2⟩; obtain ⟨c2, f2⟩ := x2.rules; have z2 := x2.size; have k2_0_0 := c2 (w.heap.size) 0 (by first | (simp; done) | (simp; omega) | omega); have q2_0_0 := f2 (w.heap.size) 0 (by first | (simp; done) | (simp; omega) | omega); have k2_0_1 := c2 (w.heap.size) 1 (by first | (simp; done) | (simp; omega) | omega); have q2_0_1 := f2 (w.heap.size) 1 (by first | (simp; done) | (simp; omega) | omega); have k2_1_0 := c2 (w.heap.size + 1) 0 (by first | (simp; done) | (simp; omega) | omega); have q2_1_0 := f2 (w.heap.size + 1) 0 (by first | (simp; done) | (simp; omega) | omega); have k2_1_1 := c2 (w.heap.size + 1) 1 (by first | (simp; done) | (simp; omega) | omega); have q2_1_1 := f2 (w.heap.size + 1) 1 (by first | (simp; done) | (simp; omega) | omega); have z2_0 : w.heap.size < v2.heap.size := (by (try simp at z2); omega); have z2_1 : w.heap.size + 1 < v2.heap.size := (by (try simp at z2); omega); (try simp at z2); clear c2 f2; simp [go_sem, *] at k2_0_0 q2_0_0 k2_0_1 q2_0_1 k2_1_0 q2_1_0 k2_1_1 q2_1_1; (try clear k1_0_0); (try clear q1_0_0); (try clear k1_0_1); (try clear q1_0_1); (try clear k1_1_0); (try clear q1_1_0); (try clear k1_1_1); (try clear q1_1_1)
  go_wp2_with fail; refine (O.out _).mono ?_; rintro e v3 ⟨rfl, x3⟩; obtain ⟨c3, f3⟩ := x3.rules; have z3 := x3.size; have k3_0_0 := c3 (w.heap.size) 0 (by first | (simp; done) | (simp; omega) | omega); have q3_0_0 := f3 (w.heap.size) 0 (by first | (simp; done) | (simp; omega) | omega); have k3_0_1 := c3 (w.heap.size) 1 (by first | (simp; done) | (simp; omega) | omega); have q3_0_1 := f3 (w.heap.size) 1 (by first | (simp; done) | (simp; omega) | omega); have k3_1_0 := c3 (w.heap.size + 1) 0 (by first | (simp; done) | (simp; omega) | omega); have q3_1_0 := f3 (w.heap.size + 1) 0 (by first | (simp; done) | (simp; omega) | omega); have k3_1_1 := c3 (w.heap.size + 1) 1 (by first | (simp; done) | (simp; omega) | omega); have q3_1_1 := f3 (w.heap.size + 1) 1 (by first | (simp; done) | (simp; omega) | omega); have k3_v2_heap_size_0 := c3 (v2.heap.size) 0 (by first | (simp; done) | (simp; omega) | omega); have q3_v2_heap_size_0 := f3 (v2.heap.size) 0 (by first | (simp; done) | (simp; omega) | omega); have k3_v2_heap_size_1 := c3 (v2.heap.size) 1 (by first | (simp; done) | (simp; omega) | omega); have q3_v2_heap_size_1 := f3 (v2.heap.size) 1 (by first | (simp; done) | (simp; omega) | omega); have z3_0 : w.heap.size < v3.heap.size := (by (try simp at z3); omega); have z3_1 : w.heap.size + 1 < v3.heap.size := (by (try simp at z3); omega); have z3_v2_heap_size : v2.heap.size < v3.heap.size := (by (try simp at z3); omega); (try simp at z3); clear c3 f3; simp [go_sem, *] at k3_0_0 q3_0_0 k3_0_1 q3_0_1 k3_1_0 q3_1_0 k3_1_1 q3_1_1 k3_v2_heap_size_0 q3_v2_heap_size_0 k3_v2_heap_size_1 q3_v2_heap_size_1; (try clear k2_0_0); (try clear q2_0_0); (try clear k2_0_1); (try clear q2_0_1); (try clear k2_1_0); (try clear q2_1_0); (try clear k2_1_1); (try clear q2_1_1)
  go_wp2_with fail; refine (OP.out _).mono ?_; rintro e v4 ⟨rfl, x4⟩; obtain ⟨c4, f4⟩ := x4.rules; have z4 := x4.size; have k4_1_0 := c4 (w.heap.size + 1) 0 (by first | (simp; done) | (simp; omega) | omega); have q4_1_0 := f4 (w.heap.size + 1) 0 (by first | (simp; done) | (simp; omega) | omega); have k4_1_1 := c4 (w.heap.size + 1) 1 (by first | (simp; done) | (simp; omega) | omega); have q4_1_1 := f4 (w.heap.size + 1) 1 (by first | (simp; done) | (simp; omega) | omega); have k4_v2_heap_size_0 := c4 (v2.heap.size) 0 (by first | (simp; done) | (simp; omega) | omega); have q4_v2_heap_size_0 := f4 (v2.heap.size) 0 (by first | (simp; done) | (simp; omega) | omega); have k4_v2_heap_size_1 := c4 (v2.heap.size) 1 (by first | (simp; done) | (simp; omega) | omega); have q4_v2_heap_size_1 := f4 (v2.heap.size) 1 (by first | (simp; done) | (simp; omega) | omega); have k4_v3_heap_size_0 := c4 (v3.heap.size) 0 (by first | (simp; done) | (simp; omega) | omega); have q4_v3_heap_size_0 := f4 (v3.heap.size) 0 (by first | (simp; done) | (simp; omega) | omega); have k4_v3_heap_size_1 := c4 (v3.heap.size) 1 (by first | (simp; done) | (simp; omega) | omega); have q4_v3_heap_size_1 := f4 (v3.heap.size) 1 (by first | (simp; done) | (simp; omega) | omega); have z4_0 : w.heap.size < v4.heap.size := (by (try simp at z4); omega); have z4_1 : w.heap.size + 1 < v4.heap.size := (by (try simp at z4); omega); have z4_v2_heap_size : v2.heap.size < v4.heap.size := (by (try simp at z4); omega); have z4_v3_heap_size : v3.heap.size < v4.heap.size := (by (try simp at z4); omega); (try simp at z4); clear c4 f4; simp [go_sem, *] at k4_1_0 q4_1_0 k4_1_1 q4_1_1 k4_v2_heap_size_0 q4_v2_heap_size_0 k4_v2_heap_size_1 q4_v2_heap_size_1 k4_v3_heap_size_0 q4_v3_heap_size_0 k4_v3_heap_size_1 q4_v3_heap_size_1; (try clear k3_0_0); (try clear q3_0_0); (try clear k3_0_1); (try clear q3_0_1); (try clear k3_1_0); (try clear q3_1_0); (try clear k3_1_1); (try clear q3_1_1); (try clear k3_v2_heap_size_0); (try clear q3_v2_heap_size_0); (try clear k3_v2_heap_size_1); (try clear q3_v2_heap_size_1)
  go_wp2
  go_region_held3 (fun w' => w'.cell? ⟨v3.heap.size, 0, none⟩ = some (.int .u64 (hi (mag x))) ∧ w'.cell? ⟨v3.heap.size, 1, none⟩ = some (.int .u64 (lo (mag x))))
    (refine ⟨?_, ?_⟩ <;> first | (simp [go_sem, *]; done) | exact (by repeat (first | with_reducible exact Ext.refl _ | with_reducible apply Ext.drew | with_reducible apply Ext.drewN | with_reducible apply Ext.alloc | ((with_reducible refine Ext.setCell ?_ ?_ _); rotate_left; focus (first | (simp; done) | (simp; omega) | omega)) | with_reducible refine Ext.tr ?_ x1 | with_reducible refine Ext.tr ?_ x2 | with_reducible refine Ext.tr ?_ x3 | with_reducible refine Ext.tr ?_ x4 | with_reducible refine Ext.tr ?_ x5 | with_reducible refine Ext.tr ?_ x6 | with_reducible refine Ext.tr ?_ x7 | with_reducible refine Ext.tr ?_ x8 | with_reducible refine Ext.tr ?_ hx | with_reducible assumption)))
    (fail)
  go_wp2_with fail; refine (SB.out _).mono ?_; rintro e v5 ⟨rfl, x5⟩; obtain ⟨c5, f5⟩ := x5.rules; have z5 := x5.size; have k5_1_0 := c5 (w.heap.size + 1) 0 (by first | (simp; done) | (simp; omega) | omega); have q5_1_0 := f5 (w.heap.size + 1) 0 (by first | (simp; done) | (simp; omega) | omega); have k5_1_1 := c5 (w.heap.size + 1) 1 (by first | (simp; done) | (simp; omega) | omega); have q5_1_1 := f5 (w.heap.size + 1) 1 (by first | (simp; done) | (simp; omega) | omega); have k5_v3_heap_size_0 := c5 (v3.heap.size) 0 (by first | (simp; done) | (simp; omega) | omega); have q5_v3_heap_size_0 := f5 (v3.heap.size) 0 (by first | (simp; done) | (simp; omega) | omega); have k5_v3_heap_size_1 := c5 (v3.heap.size) 1 (by first | (simp; done) | (simp; omega) | omega); have q5_v3_heap_size_1 := f5 (v3.heap.size) 1 (by first | (simp; done) | (simp; omega) | omega); have k5_v4_heap_size_0 := c5 (v4.heap.size) 0 (by first | (simp; done) | (simp; omega) | omega); have q5_v4_heap_size_0 := f5 (v4.heap.size) 0 (by first | (simp; done) | (simp; omega) | omega); have k5_v4_heap_size_1 := c5 (v4.heap.size) 1 (by first | (simp; done) | (simp; omega) | omega); have q5_v4_heap_size_1 := f5 (v4.heap.size) 1 (by first | (simp; done) | (simp; omega) | omega); have k5_v4_heap_size___1_0 := c5 (v4.heap.size + 1) 0 (by first | (simp; done) | (simp; omega) | omega); have q5_v4_heap_size___1_0 := f5 (v4.heap.size + 1) 0 (by first | (simp; done) | (simp; omega) | omega); have k5_v4_heap_size___1_1 := c5 (v4.heap.size + 1) 1 (by first | (simp; done) | (simp; omega) | omega); have q5_v4_heap_size___1_1 := f5 (v4.heap.size + 1) 1 (by first | (simp; done) | (simp; omega) | omega); have k5_v4_heap_size___1___1_0 := c5 (v4.heap.size + 1 + 1) 0 (by first | (simp; done) | (simp; omega) | omega); have q5_v4_heap_size___1___1_0 := f5 (v4.heap.size + 1 + 1) 0 (by first | (simp; done) | (simp; omega) | omega); have k5_v4_heap_size___1___1_1 := c5 (v4.heap.size + 1 + 1) 1 (by first | (simp; done) | (simp; omega) | omega); have q5_v4_heap_size___1___1_1 := f5 (v4.heap.size + 1 + 1) 1 (by first | (simp; done) | (simp; omega) | omega); have z5_0 : w.heap.size < v5.heap.size := (by (try simp at z5); omega); have z5_1 : w.heap.size + 1 < v5.heap.size := (by (try simp at z5); omega); have z5_v3_heap_size : v3.heap.size < v5.heap.size := (by (try simp at z5); omega); have z5_v4_heap_size : v4.heap.size < v5.heap.size := (by (try simp at z5); omega); have z5_v4_heap_size___1 : v4.heap.size + 1 < v5.heap.size := (by (try simp at z5); omega); have z5_v4_heap_size___1___1 : v4.heap.size + 1 + 1 < v5.heap.size := (by (try simp at z5); omega); (try simp at z5); clear c5 f5; simp [go_sem, *] at k5_1_0 q5_1_0 k5_1_1 q5_1_1 k5_v3_heap_size_0 q5_v3_heap_size_0 k5_v3_heap_size_1 q5_v3_heap_size_1 k5_v4_heap_size_0 q5_v4_heap_size_0 k5_v4_heap_size_1 q5_v4_heap_size_1 k5_v4_heap_size___1_0 q5_v4_heap_size___1_0 k5_v4_heap_size___1_1 q5_v4_heap_size___1_1 k5_v4_heap_size___1___1_0 q5_v4_heap_size___1___1_0 k5_v4_heap_size___1___1_1 q5_v4_heap_size___1___1_1; (try clear k4_1_0); (try clear q4_1_0); (try clear k4_1_1); (try clear q4_1_1); (try clear k4_v2_heap_size_0); (try clear q4_v2_heap_size_0); (try clear k4_v2_heap_size_1); (try clear q4_v2_heap_size_1); (try clear k4_v3_heap_size_0); (try clear q4_v3_heap_size_0); (try clear k4_v3_heap_size_1); (try clear q4_v3_heap_size_1)
  rcases Int.lt_trichotomy (p2 n - mag x % p2 n) (mag x % p2 n) with h | h | h
  · have g : decide (p2 n - mag x % p2 n < mag x % p2 n) = true := by simp; omega
    have NU := Lib.hid (show p2 n - mag x % p2 n < mag x % p2 n ∨ (p2 n - mag x % p2 n = mag x % p2 n ∧ mag x / p2 n % 2 = 1) from Or.inl h)
    clear h
    go_wp2_with fail; refine (SL.out _).mono ?_; rintro e v6 ⟨rfl, x6⟩; obtain ⟨c6, f6⟩ := x6.rules; have z6 := x6.size; have k6_1_0 := c6 (w.heap.size + 1) 0 (by first | (simp; done) | (simp; omega) | omega); have q6_1_0 := f6 (w.heap.size + 1) 0 (by first | (simp; done) | (simp; omega) | omega); have k6_1_1 := c6 (w.heap.size + 1) 1 (by first | (simp; done) | (simp; omega) | omega); have q6_1_1 := f6 (w.heap.size + 1) 1 (by first | (simp; done) | (simp; omega) | omega); have k6_v4_heap_size___1_0 := c6 (v4.heap.size + 1) 0 (by first | (simp; done) | (simp; omega) | omega); have q6_v4_heap_size___1_0 := f6 (v4.heap.size + 1) 0 (by first | (simp; done) | (simp; omega) | omega); have k6_v4_heap_size___1_1 := c6 (v4.heap.size + 1) 1 (by first | (simp; done) | (simp; omega) | omega); have q6_v4_heap_size___1_1 := f6 (v4.heap.size + 1) 1 (by first | (simp; done) | (simp; omega) | omega); have z6_0 : w.heap.size < v6.heap.size := (by (try simp at z6); omega); have z6_1 : w.heap.size + 1 < v6.heap.size := (by (try simp at z6); omega); have z6_v4_heap_size : v4.heap.size < v6.heap.size := (by (try simp at z6); omega); have z6_v4_heap_size___1 : v4.heap.size + 1 < v6.heap.size := (by (try simp at z6); omega); (try simp at z6); clear c6 f6; simp [go_sem, *] at k6_1_0 q6_1_0 k6_1_1 q6_1_1 k6_v4_heap_size___1_0 q6_v4_heap_size___1_0 k6_v4_heap_size___1_1 q6_v4_heap_size___1_1; (try clear k5_1_0); (try clear q5_1_0); (try clear k5_1_1); (try clear q5_1_1); (try clear k5_v3_heap_size_0); (try clear q5_v3_heap_size_0); (try clear k5_v3_heap_size_1); (try clear q5_v3_heap_size_1); (try clear k5_v4_heap_size_0); (try clear q5_v4_heap_size_0); (try clear k5_v4_heap_size_1); (try clear q5_v4_heap_size_1); (try clear k5_v4_heap_size___1_0); (try clear q5_v4_heap_size___1_0); (try clear k5_v4_heap_size___1_1); (try clear q5_v4_heap_size___1_1); (try clear k5_v4_heap_size___1___1_0); (try clear q5_v4_heap_size___1___1_0); (try clear k5_v4_heap_size___1___1_1); (try clear q5_v4_heap_size___1___1_1)
    go_wp2_with fail; refine (SN.out _).mono ?_; rintro e v7 ⟨rfl, x7⟩; obtain ⟨c7, f7⟩ := x7.rules; have z7 := x7.size; have k7_1_0 := c7 (w.heap.size + 1) 0 (by first | (simp; done) | (simp; omega) | omega); have q7_1_0 := f7 (w.heap.size + 1) 0 (by first | (simp; done) | (simp; omega) | omega); have k7_1_1 := c7 (w.heap.size + 1) 1 (by first | (simp; done) | (simp; omega) | omega); have q7_1_1 := f7 (w.heap.size + 1) 1 (by first | (simp; done) | (simp; omega) | omega); have k7_v4_heap_size___1_0 := c7 (v4.heap.size + 1) 0 (by first | (simp; done) | (simp; omega) | omega); have q7_v4_heap_size___1_0 := f7 (v4.heap.size + 1) 0 (by first | (simp; done) | (simp; omega) | omega); have k7_v4_heap_size___1_1 := c7 (v4.heap.size + 1) 1 (by first | (simp; done) | (simp; omega) | omega); have q7_v4_heap_size___1_1 := f7 (v4.heap.size + 1) 1 (by first | (simp; done) | (simp; omega) | omega); have z7_0 : w.heap.size < v7.heap.size := (by (try simp at z7); omega); have z7_1 : w.heap.size + 1 < v7.heap.size := (by (try simp at z7); omega); have z7_v4_heap_size : v4.heap.size < v7.heap.size := (by (try simp at z7); omega); have z7_v4_heap_size___1 : v4.heap.size + 1 < v7.heap.size := (by (try simp at z7); omega); (try simp at z7); clear c7 f7; simp [go_sem, *] at k7_1_0 q7_1_0 k7_1_1 q7_1_1 k7_v4_heap_size___1_0 q7_v4_heap_size___1_0 k7_v4_heap_size___1_1 q7_v4_heap_size___1_1; (try clear k6_1_0); (try clear q6_1_0); (try clear k6_1_1); (try clear q6_1_1); (try clear k6_v4_heap_size___1_0); (try clear q6_v4_heap_size___1_0); (try clear k6_v4_heap_size___1_1); (try clear q6_v4_heap_size___1_1)
    go_wp2_with fail; refine (TU.out _).mono ?_; rintro e v8 ⟨rfl, x8⟩; obtain ⟨c8, f8⟩ := x8.rules; have z8 := x8.size; have k8_1_0 := c8 (w.heap.size + 1) 0 (by first | (simp; done) | (simp; omega) | omega); have q8_1_0 := f8 (w.heap.size + 1) 0 (by first | (simp; done) | (simp; omega) | omega); have k8_1_1 := c8 (w.heap.size + 1) 1 (by first | (simp; done) | (simp; omega) | omega); have q8_1_1 := f8 (w.heap.size + 1) 1 (by first | (simp; done) | (simp; omega) | omega); have z8_0 : w.heap.size < v8.heap.size := (by (try simp at z8); omega); have z8_1 : w.heap.size + 1 < v8.heap.size := (by (try simp at z8); omega); (try simp at z8); clear c8 f8; simp [go_sem, *] at k8_1_0 q8_1_0 k8_1_1 q8_1_1; (try clear k7_1_0); (try clear q7_1_0); (try clear k7_1_1); (try clear q7_1_1); (try clear k7_v4_heap_size___1_0); (try clear q7_v4_heap_size___1_0); (try clear k7_v4_heap_size___1_1); (try clear q7_v4_heap_size___1_1)
    go_wp2
    simp [bodyPost, results, Try.results146, go_sem, *]
    rw [NM.out, near0_up NU.out]
    all_goals exact ⟨⟨rfl, rfl⟩, (by repeat (first | with_reducible exact Ext.refl _ | with_reducible apply Ext.drew | with_reducible apply Ext.drewN | with_reducible apply Ext.alloc | ((with_reducible refine Ext.setCell ?_ ?_ _); rotate_left; focus (first | (simp; done) | (simp; omega) | omega)) | with_reducible refine Ext.tr ?_ x1 | with_reducible refine Ext.tr ?_ x2 | with_reducible refine Ext.tr ?_ x3 | with_reducible refine Ext.tr ?_ x4 | with_reducible refine Ext.tr ?_ x5 | with_reducible refine Ext.tr ?_ x6 | with_reducible refine Ext.tr ?_ x7 | with_reducible refine Ext.tr ?_ x8 | with_reducible refine Ext.tr ?_ hx | with_reducible assumption))⟩
  · have g : decide (p2 n - mag x % p2 n < mag x % p2 n) = false := by simp; omega
    have g2 : lo (p2 n - mag x % p2 n) = lo (mag x % p2 n) := by rw [h]
    rw [g2] at SL
    by_cases o : lo (mag x / p2 n) % 2 = 1
    · have o2 : (lo (mag x / p2 n) % 2 == 1) = true := by simp [o]
      have NU := Lib.hid (show p2 n - mag x % p2 n < mag x % p2 n ∨ (p2 n - mag x % p2 n = mag x % p2 n ∧ mag x / p2 n % 2 = 1) from Or.inr ⟨h, by rw [← L2.out]; exact o⟩)
      clear h o
      go_wp2_with fail; refine (SL.out _).mono ?_; rintro e v6 ⟨rfl, x6⟩; obtain ⟨c6, f6⟩ := x6.rules; have z6 := x6.size; have k6_1_0 := c6 (w.heap.size + 1) 0 (by first | (simp; done) | (simp; omega) | omega); have q6_1_0 := f6 (w.heap.size + 1) 0 (by first | (simp; done) | (simp; omega) | omega); have k6_1_1 := c6 (w.heap.size + 1) 1 (by first | (simp; done) | (simp; omega) | omega); have q6_1_1 := f6 (w.heap.size + 1) 1 (by first | (simp; done) | (simp; omega) | omega); have k6_v4_heap_size___1_0 := c6 (v4.heap.size + 1) 0 (by first | (simp; done) | (simp; omega) | omega); have q6_v4_heap_size___1_0 := f6 (v4.heap.size + 1) 0 (by first | (simp; done) | (simp; omega) | omega); have k6_v4_heap_size___1_1 := c6 (v4.heap.size + 1) 1 (by first | (simp; done) | (simp; omega) | omega); have q6_v4_heap_size___1_1 := f6 (v4.heap.size + 1) 1 (by first | (simp; done) | (simp; omega) | omega); have k6_v4_heap_size___1___1_0 := c6 (v4.heap.size + 1 + 1) 0 (by first | (simp; done) | (simp; omega) | omega); have q6_v4_heap_size___1___1_0 := f6 (v4.heap.size + 1 + 1) 0 (by first | (simp; done) | (simp; omega) | omega); have k6_v4_heap_size___1___1_1 := c6 (v4.heap.size + 1 + 1) 1 (by first | (simp; done) | (simp; omega) | omega); have q6_v4_heap_size___1___1_1 := f6 (v4.heap.size + 1 + 1) 1 (by first | (simp; done) | (simp; omega) | omega); have k6_v5_heap_size_0 := c6 (v5.heap.size) 0 (by first | (simp; done) | (simp; omega) | omega); have q6_v5_heap_size_0 := f6 (v5.heap.size) 0 (by first | (simp; done) | (simp; omega) | omega); have k6_v5_heap_size_1 := c6 (v5.heap.size) 1 (by first | (simp; done) | (simp; omega) | omega); have q6_v5_heap_size_1 := f6 (v5.heap.size) 1 (by first | (simp; done) | (simp; omega) | omega); have z6_0 : w.heap.size < v6.heap.size := (by (try simp at z6); omega); have z6_1 : w.heap.size + 1 < v6.heap.size := (by (try simp at z6); omega); have z6_v4_heap_size : v4.heap.size < v6.heap.size := (by (try simp at z6); omega); have z6_v4_heap_size___1 : v4.heap.size + 1 < v6.heap.size := (by (try simp at z6); omega); have z6_v4_heap_size___1___1 : v4.heap.size + 1 + 1 < v6.heap.size := (by (try simp at z6); omega); have z6_v5_heap_size : v5.heap.size < v6.heap.size := (by (try simp at z6); omega); (try simp at z6); clear c6 f6; simp [go_sem, *] at k6_1_0 q6_1_0 k6_1_1 q6_1_1 k6_v4_heap_size___1_0 q6_v4_heap_size___1_0 k6_v4_heap_size___1_1 q6_v4_heap_size___1_1 k6_v4_heap_size___1___1_0 q6_v4_heap_size___1___1_0 k6_v4_heap_size___1___1_1 q6_v4_heap_size___1___1_1 k6_v5_heap_size_0 q6_v5_heap_size_0 k6_v5_heap_size_1 q6_v5_heap_size_1; (try clear k5_1_0); (try clear q5_1_0); (try clear k5_1_1); (try clear q5_1_1); (try clear k5_v3_heap_size_0); (try clear q5_v3_heap_size_0); (try clear k5_v3_heap_size_1); (try clear q5_v3_heap_size_1); (try clear k5_v4_heap_size_0); (try clear q5_v4_heap_size_0); (try clear k5_v4_heap_size_1); (try clear q5_v4_heap_size_1); (try clear k5_v4_heap_size___1_0); (try clear q5_v4_heap_size___1_0); (try clear k5_v4_heap_size___1_1); (try clear q5_v4_heap_size___1_1); (try clear k5_v4_heap_size___1___1_0); (try clear q5_v4_heap_size___1___1_0); (try clear k5_v4_heap_size___1___1_1); (try clear q5_v4_heap_size___1___1_1)
      go_wp2_with fail; refine (SN.out _).mono ?_; rintro e v7 ⟨rfl, x7⟩; obtain ⟨c7, f7⟩ := x7.rules; have z7 := x7.size; have k7_1_0 := c7 (w.heap.size + 1) 0 (by first | (simp; done) | (simp; omega) | omega); have q7_1_0 := f7 (w.heap.size + 1) 0 (by first | (simp; done) | (simp; omega) | omega); have k7_1_1 := c7 (w.heap.size + 1) 1 (by first | (simp; done) | (simp; omega) | omega); have q7_1_1 := f7 (w.heap.size + 1) 1 (by first | (simp; done) | (simp; omega) | omega); have k7_v4_heap_size___1_0 := c7 (v4.heap.size + 1) 0 (by first | (simp; done) | (simp; omega) | omega); have q7_v4_heap_size___1_0 := f7 (v4.heap.size + 1) 0 (by first | (simp; done) | (simp; omega) | omega); have k7_v4_heap_size___1_1 := c7 (v4.heap.size + 1) 1 (by first | (simp; done) | (simp; omega) | omega); have q7_v4_heap_size___1_1 := f7 (v4.heap.size + 1) 1 (by first | (simp; done) | (simp; omega) | omega); have z7_0 : w.heap.size < v7.heap.size := (by (try simp at z7); omega); have z7_1 : w.heap.size + 1 < v7.heap.size := (by (try simp at z7); omega); have z7_v4_heap_size : v4.heap.size < v7.heap.size := (by (try simp at z7); omega); have z7_v4_heap_size___1 : v4.heap.size + 1 < v7.heap.size := (by (try simp at z7); omega); (try simp at z7); clear c7 f7; simp [go_sem, *] at k7_1_0 q7_1_0 k7_1_1 q7_1_1 k7_v4_heap_size___1_0 q7_v4_heap_size___1_0 k7_v4_heap_size___1_1 q7_v4_heap_size___1_1; (try clear k6_1_0); (try clear q6_1_0); (try clear k6_1_1); (try clear q6_1_1); (try clear k6_v4_heap_size___1_0); (try clear q6_v4_heap_size___1_0); (try clear k6_v4_heap_size___1_1); (try clear q6_v4_heap_size___1_1); (try clear k6_v4_heap_size___1___1_0); (try clear q6_v4_heap_size___1___1_0); (try clear k6_v4_heap_size___1___1_1); (try clear q6_v4_heap_size___1___1_1); (try clear k6_v5_heap_size_0); (try clear q6_v5_heap_size_0); (try clear k6_v5_heap_size_1); (try clear q6_v5_heap_size_1)
      go_wp2_with fail; refine (TU.out _).mono ?_; rintro e v8 ⟨rfl, x8⟩; obtain ⟨c8, f8⟩ := x8.rules; have z8 := x8.size; have k8_1_0 := c8 (w.heap.size + 1) 0 (by first | (simp; done) | (simp; omega) | omega); have q8_1_0 := f8 (w.heap.size + 1) 0 (by first | (simp; done) | (simp; omega) | omega); have k8_1_1 := c8 (w.heap.size + 1) 1 (by first | (simp; done) | (simp; omega) | omega); have q8_1_1 := f8 (w.heap.size + 1) 1 (by first | (simp; done) | (simp; omega) | omega); have z8_0 : w.heap.size < v8.heap.size := (by (try simp at z8); omega); have z8_1 : w.heap.size + 1 < v8.heap.size := (by (try simp at z8); omega); (try simp at z8); clear c8 f8; simp [go_sem, *] at k8_1_0 q8_1_0 k8_1_1 q8_1_1; (try clear k7_1_0); (try clear q7_1_0); (try clear k7_1_1); (try clear q7_1_1); (try clear k7_v4_heap_size___1_0); (try clear q7_v4_heap_size___1_0); (try clear k7_v4_heap_size___1_1); (try clear q7_v4_heap_size___1_1)
      go_wp2
      simp [bodyPost, results, Try.results146, go_sem, *]
      rw [NM.out, near0_up NU.out]
      all_goals exact ⟨⟨rfl, rfl⟩, (by repeat (first | with_reducible exact Ext.refl _ | with_reducible apply Ext.drew | with_reducible apply Ext.drewN | with_reducible apply Ext.alloc | ((with_reducible refine Ext.setCell ?_ ?_ _); rotate_left; focus (first | (simp; done) | (simp; omega) | omega)) | with_reducible refine Ext.tr ?_ x1 | with_reducible refine Ext.tr ?_ x2 | with_reducible refine Ext.tr ?_ x3 | with_reducible refine Ext.tr ?_ x4 | with_reducible refine Ext.tr ?_ x5 | with_reducible refine Ext.tr ?_ x6 | with_reducible refine Ext.tr ?_ x7 | with_reducible refine Ext.tr ?_ x8 | with_reducible refine Ext.tr ?_ hx | with_reducible assumption))⟩
    · have o2 : (lo (mag x / p2 n) % 2 == 1) = false := by simp [o]
      have NU := Lib.hid (show ¬ (p2 n - mag x % p2 n < mag x % p2 n ∨ (p2 n - mag x % p2 n = mag x % p2 n ∧ mag x / p2 n % 2 = 1)) from by rw [← L2.out]; omega)
      clear h o
      go_wp2_with fail; refine (SL.out _).mono ?_; rintro e v6 ⟨rfl, x6⟩; obtain ⟨c6, f6⟩ := x6.rules; have z6 := x6.size; have k6_1_0 := c6 (w.heap.size + 1) 0 (by first | (simp; done) | (simp; omega) | omega); have q6_1_0 := f6 (w.heap.size + 1) 0 (by first | (simp; done) | (simp; omega) | omega); have k6_1_1 := c6 (w.heap.size + 1) 1 (by first | (simp; done) | (simp; omega) | omega); have q6_1_1 := f6 (w.heap.size + 1) 1 (by first | (simp; done) | (simp; omega) | omega); have k6_v4_heap_size___1_0 := c6 (v4.heap.size + 1) 0 (by first | (simp; done) | (simp; omega) | omega); have q6_v4_heap_size___1_0 := f6 (v4.heap.size + 1) 0 (by first | (simp; done) | (simp; omega) | omega); have k6_v4_heap_size___1_1 := c6 (v4.heap.size + 1) 1 (by first | (simp; done) | (simp; omega) | omega); have q6_v4_heap_size___1_1 := f6 (v4.heap.size + 1) 1 (by first | (simp; done) | (simp; omega) | omega); have k6_v4_heap_size___1___1_0 := c6 (v4.heap.size + 1 + 1) 0 (by first | (simp; done) | (simp; omega) | omega); have q6_v4_heap_size___1___1_0 := f6 (v4.heap.size + 1 + 1) 0 (by first | (simp; done) | (simp; omega) | omega); have k6_v4_heap_size___1___1_1 := c6 (v4.heap.size + 1 + 1) 1 (by first | (simp; done) | (simp; omega) | omega); have q6_v4_heap_size___1___1_1 := f6 (v4.heap.size + 1 + 1) 1 (by first | (simp; done) | (simp; omega) | omega); have k6_v5_heap_size_0 := c6 (v5.heap.size) 0 (by first | (simp; done) | (simp; omega) | omega); have q6_v5_heap_size_0 := f6 (v5.heap.size) 0 (by first | (simp; done) | (simp; omega) | omega); have k6_v5_heap_size_1 := c6 (v5.heap.size) 1 (by first | (simp; done) | (simp; omega) | omega); have q6_v5_heap_size_1 := f6 (v5.heap.size) 1 (by first | (simp; done) | (simp; omega) | omega); have z6_0 : w.heap.size < v6.heap.size := (by (try simp at z6); omega); have z6_1 : w.heap.size + 1 < v6.heap.size := (by (try simp at z6); omega); have z6_v4_heap_size : v4.heap.size < v6.heap.size := (by (try simp at z6); omega); have z6_v4_heap_size___1 : v4.heap.size + 1 < v6.heap.size := (by (try simp at z6); omega); have z6_v4_heap_size___1___1 : v4.heap.size + 1 + 1 < v6.heap.size := (by (try simp at z6); omega); have z6_v5_heap_size : v5.heap.size < v6.heap.size := (by (try simp at z6); omega); (try simp at z6); clear c6 f6; simp [go_sem, *] at k6_1_0 q6_1_0 k6_1_1 q6_1_1 k6_v4_heap_size___1_0 q6_v4_heap_size___1_0 k6_v4_heap_size___1_1 q6_v4_heap_size___1_1 k6_v4_heap_size___1___1_0 q6_v4_heap_size___1___1_0 k6_v4_heap_size___1___1_1 q6_v4_heap_size___1___1_1 k6_v5_heap_size_0 q6_v5_heap_size_0 k6_v5_heap_size_1 q6_v5_heap_size_1; (try clear k5_1_0); (try clear q5_1_0); (try clear k5_1_1); (try clear q5_1_1); (try clear k5_v3_heap_size_0); (try clear q5_v3_heap_size_0); (try clear k5_v3_heap_size_1); (try clear q5_v3_heap_size_1); (try clear k5_v4_heap_size_0); (try clear q5_v4_heap_size_0); (try clear k5_v4_heap_size_1); (try clear q5_v4_heap_size_1); (try clear k5_v4_heap_size___1_0); (try clear q5_v4_heap_size___1_0); (try clear k5_v4_heap_size___1_1); (try clear q5_v4_heap_size___1_1); (try clear k5_v4_heap_size___1___1_0); (try clear q5_v4_heap_size___1___1_0); (try clear k5_v4_heap_size___1___1_1); (try clear q5_v4_heap_size___1___1_1)
      go_wp2_with fail; refine (TD.out _).mono ?_; rintro e v8 ⟨rfl, x8⟩; obtain ⟨c8, f8⟩ := x8.rules; have z8 := x8.size; have k8_1_0 := c8 (w.heap.size + 1) 0 (by first | (simp; done) | (simp; omega) | omega); have q8_1_0 := f8 (w.heap.size + 1) 0 (by first | (simp; done) | (simp; omega) | omega); have k8_1_1 := c8 (w.heap.size + 1) 1 (by first | (simp; done) | (simp; omega) | omega); have q8_1_1 := f8 (w.heap.size + 1) 1 (by first | (simp; done) | (simp; omega) | omega); have z8_0 : w.heap.size < v8.heap.size := (by (try simp at z8); omega); have z8_1 : w.heap.size + 1 < v8.heap.size := (by (try simp at z8); omega); (try simp at z8); clear c8 f8; simp [go_sem, *] at k8_1_0 q8_1_0 k8_1_1 q8_1_1; (try clear k6_1_0); (try clear q6_1_0); (try clear k6_1_1); (try clear q6_1_1); (try clear k6_v4_heap_size___1_0); (try clear q6_v4_heap_size___1_0); (try clear k6_v4_heap_size___1_1); (try clear q6_v4_heap_size___1_1); (try clear k6_v4_heap_size___1___1_0); (try clear q6_v4_heap_size___1___1_0); (try clear k6_v4_heap_size___1___1_1); (try clear q6_v4_heap_size___1___1_1); (try clear k6_v5_heap_size_0); (try clear q6_v5_heap_size_0); (try clear k6_v5_heap_size_1); (try clear q6_v5_heap_size_1)
      go_wp2
      simp [bodyPost, results, Try.results146, go_sem, *]
      rw [NM.out, near0_down NU.out]
      all_goals exact ⟨⟨rfl, rfl⟩, (by repeat (first | with_reducible exact Ext.refl _ | with_reducible apply Ext.drew | with_reducible apply Ext.drewN | with_reducible apply Ext.alloc | ((with_reducible refine Ext.setCell ?_ ?_ _); rotate_left; focus (first | (simp; done) | (simp; omega) | omega)) | with_reducible refine Ext.tr ?_ x1 | with_reducible refine Ext.tr ?_ x2 | with_reducible refine Ext.tr ?_ x3 | with_reducible refine Ext.tr ?_ x4 | with_reducible refine Ext.tr ?_ x5 | with_reducible refine Ext.tr ?_ x6 | with_reducible refine Ext.tr ?_ x7 | with_reducible refine Ext.tr ?_ x8 | with_reducible refine Ext.tr ?_ hx | with_reducible assumption))⟩
  · have g : decide (p2 n - mag x % p2 n < mag x % p2 n) = false := by simp; omega
    have g2 : ¬ lo (p2 n - mag x % p2 n) = lo (mag x % p2 n) := by
      rw [LL.out.1, LL.out.2]
      omega
    have NU := Lib.hid (show ¬ (p2 n - mag x % p2 n < mag x % p2 n ∨ (p2 n - mag x % p2 n = mag x % p2 n ∧ mag x / p2 n % 2 = 1)) from by omega)
    clear h
    go_wp2_with fail; refine (SL.out _).mono ?_; rintro e v6 ⟨rfl, x6⟩; obtain ⟨c6, f6⟩ := x6.rules; have z6 := x6.size; have k6_1_0 := c6 (w.heap.size + 1) 0 (by first | (simp; done) | (simp; omega) | omega); have q6_1_0 := f6 (w.heap.size + 1) 0 (by first | (simp; done) | (simp; omega) | omega); have k6_1_1 := c6 (w.heap.size + 1) 1 (by first | (simp; done) | (simp; omega) | omega); have q6_1_1 := f6 (w.heap.size + 1) 1 (by first | (simp; done) | (simp; omega) | omega); have k6_v4_heap_size___1_0 := c6 (v4.heap.size + 1) 0 (by first | (simp; done) | (simp; omega) | omega); have q6_v4_heap_size___1_0 := f6 (v4.heap.size + 1) 0 (by first | (simp; done) | (simp; omega) | omega); have k6_v4_heap_size___1_1 := c6 (v4.heap.size + 1) 1 (by first | (simp; done) | (simp; omega) | omega); have q6_v4_heap_size___1_1 := f6 (v4.heap.size + 1) 1 (by first | (simp; done) | (simp; omega) | omega); have k6_v4_heap_size___1___1_0 := c6 (v4.heap.size + 1 + 1) 0 (by first | (simp; done) | (simp; omega) | omega); have q6_v4_heap_size___1___1_0 := f6 (v4.heap.size + 1 + 1) 0 (by first | (simp; done) | (simp; omega) | omega); have k6_v4_heap_size___1___1_1 := c6 (v4.heap.size + 1 + 1) 1 (by first | (simp; done) | (simp; omega) | omega); have q6_v4_heap_size___1___1_1 := f6 (v4.heap.size + 1 + 1) 1 (by first | (simp; done) | (simp; omega) | omega); have k6_v5_heap_size_0 := c6 (v5.heap.size) 0 (by first | (simp; done) | (simp; omega) | omega); have q6_v5_heap_size_0 := f6 (v5.heap.size) 0 (by first | (simp; done) | (simp; omega) | omega); have k6_v5_heap_size_1 := c6 (v5.heap.size) 1 (by first | (simp; done) | (simp; omega) | omega); have q6_v5_heap_size_1 := f6 (v5.heap.size) 1 (by first | (simp; done) | (simp; omega) | omega); have z6_0 : w.heap.size < v6.heap.size := (by (try simp at z6); omega); have z6_1 : w.heap.size + 1 < v6.heap.size := (by (try simp at z6); omega); have z6_v4_heap_size : v4.heap.size < v6.heap.size := (by (try simp at z6); omega); have z6_v4_heap_size___1 : v4.heap.size + 1 < v6.heap.size := (by (try simp at z6); omega); have z6_v4_heap_size___1___1 : v4.heap.size + 1 + 1 < v6.heap.size := (by (try simp at z6); omega); have z6_v5_heap_size : v5.heap.size < v6.heap.size := (by (try simp at z6); omega); (try simp at z6); clear c6 f6; simp [go_sem, *] at k6_1_0 q6_1_0 k6_1_1 q6_1_1 k6_v4_heap_size___1_0 q6_v4_heap_size___1_0 k6_v4_heap_size___1_1 q6_v4_heap_size___1_1 k6_v4_heap_size___1___1_0 q6_v4_heap_size___1___1_0 k6_v4_heap_size___1___1_1 q6_v4_heap_size___1___1_1 k6_v5_heap_size_0 q6_v5_heap_size_0 k6_v5_heap_size_1 q6_v5_heap_size_1; (try clear k5_1_0); (try clear q5_1_0); (try clear k5_1_1); (try clear q5_1_1); (try clear k5_v3_heap_size_0); (try clear q5_v3_heap_size_0); (try clear k5_v3_heap_size_1); (try clear q5_v3_heap_size_1); (try clear k5_v4_heap_size_0); (try clear q5_v4_heap_size_0); (try clear k5_v4_heap_size_1); (try clear q5_v4_heap_size_1); (try clear k5_v4_heap_size___1_0); (try clear q5_v4_heap_size___1_0); (try clear k5_v4_heap_size___1_1); (try clear q5_v4_heap_size___1_1); (try clear k5_v4_heap_size___1___1_0); (try clear q5_v4_heap_size___1___1_0); (try clear k5_v4_heap_size___1___1_1); (try clear q5_v4_heap_size___1___1_1)
    go_wp2_with fail; refine (TD.out _).mono ?_; rintro e v8 ⟨rfl, x8⟩; obtain ⟨c8, f8⟩ := x8.rules; have z8 := x8.size; have k8_1_0 := c8 (w.heap.size + 1) 0 (by first | (simp; done) | (simp; omega) | omega); have q8_1_0 := f8 (w.heap.size + 1) 0 (by first | (simp; done) | (simp; omega) | omega); have k8_1_1 := c8 (w.heap.size + 1) 1 (by first | (simp; done) | (simp; omega) | omega); have q8_1_1 := f8 (w.heap.size + 1) 1 (by first | (simp; done) | (simp; omega) | omega); have z8_0 : w.heap.size < v8.heap.size := (by (try simp at z8); omega); have z8_1 : w.heap.size + 1 < v8.heap.size := (by (try simp at z8); omega); (try simp at z8); clear c8 f8; simp [go_sem, *] at k8_1_0 q8_1_0 k8_1_1 q8_1_1; (try clear k6_1_0); (try clear q6_1_0); (try clear k6_1_1); (try clear q6_1_1); (try clear k6_v4_heap_size___1_0); (try clear q6_v4_heap_size___1_0); (try clear k6_v4_heap_size___1_1); (try clear q6_v4_heap_size___1_1); (try clear k6_v4_heap_size___1___1_0); (try clear q6_v4_heap_size___1___1_0); (try clear k6_v4_heap_size___1___1_1); (try clear q6_v4_heap_size___1___1_1); (try clear k6_v5_heap_size_0); (try clear q6_v5_heap_size_0); (try clear k6_v5_heap_size_1); (try clear q6_v5_heap_size_1)
    go_wp2
    simp [bodyPost, results, Try.results146, go_sem, *]
    rw [NM.out, near0_down NU.out]
    all_goals exact ⟨⟨rfl, rfl⟩, (by repeat (first | with_reducible exact Ext.refl _ | with_reducible apply Ext.drew | with_reducible apply Ext.drewN | with_reducible apply Ext.alloc | ((with_reducible refine Ext.setCell ?_ ?_ _); rotate_left; focus (first | (simp; done) | (simp; omega) | omega)) | with_reducible refine Ext.tr ?_ x1 | with_reducible refine Ext.tr ?_ x2 | with_reducible refine Ext.tr ?_ x3 | with_reducible refine Ext.tr ?_ x4 | with_reducible refine Ext.tr ?_ x5 | with_reducible refine Ext.tr ?_ x6 | with_reducible refine Ext.tr ?_ x7 | with_reducible refine Ext.tr ?_ x8 | with_reducible refine Ext.tr ?_ hx | with_reducible assumption))⟩
end Go.Proofs.Ytjmecongccjcgaa
