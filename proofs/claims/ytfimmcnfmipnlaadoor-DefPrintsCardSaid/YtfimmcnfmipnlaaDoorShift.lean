/- wide.Shift, by fewer than 64 bits; what it tells. -/
import Derived.Test.YtfimmcnfmipnlaaDoorFx
import Derived.Test.YtfimmcnfmipnlaaDoorLeft
namespace Go.Proofs.YtfimmcnfmipnlaaDoor
open Go.RowKit
/-- 2^n, closed to the walk. -/
def p2 (n : Int) : Int := 2 ^ n.toNat
theorem p2_pos (n : Int) : 0 < p2 n := pow_pos' _
/-- m / d to the nearest, of two that are as near the even one; m from 0 on, d above 0. -/
def near0 (m d : Int) : Int := if d - m % d < m % d ∨ (d - m % d = m % d ∧ m / d % 2 = 1) then m / d + 1 else m / d
def near (x d : Int) : Int := if x < 0 then -near0 (-x) d else near0 x d
theorem p2_le (n : Int) (hn2 : n ≤ 126) : p2 n ≤ 85070591730234615865843651857942052864 := by
  have h : (2 : Int) ^ n.toNat ≤ 2 ^ 126 := by
    have : (2 : Int) ^ 126 = 2 ^ n.toNat * 2 ^ (126 - n.toNat) := by rw [← Int.pow_add]; congr 1; omega
    have p := pow_pos' (126 - n.toNat)
    have q := pow_pos' n.toNat
    rw [this]
    have := Int.mul_le_mul_of_nonneg_left (show (1 : Int) ≤ 2 ^ (126 - n.toNat) by omega) (Int.le_of_lt q)
    rwa [Int.mul_one] at this
  rw [show ((2 : Int) ^ 126) = 85070591730234615865843651857942052864 from rfl] at h
  exact h
theorem and_mask (a : Int) (k : Nat) (h1 : 0 ≤ a) (h2 : a < 18446744073709551616) (hk : k ≤ 64) : bits .and .u64 a (2 ^ k - 1) = a % 2 ^ k := by
  obtain ⟨a, rfl⟩ := Int.eq_ofNat_of_zero_le h1
  have p : 2 ^ k ≤ 2 ^ 64 := Nat.pow_le_pow_right (by omega) hk
  have p1 : 0 < 2 ^ k := Nat.pow_pos (by omega)
  have e : ((2 : Int) ^ k - 1) = ((2 ^ k - 1 : Nat) : Int) := by rw [Int.natCast_sub (by omega)]; simp
  rw [e, u64_and_nat a (2 ^ k - 1) (by omega) (by omega), Nat.and_two_pow_sub_one_eq_mod]
  simp
theorem shr_lo (m n : Int) (hm : U128 m) (hn : 1 ≤ n) (hn2 : n < 64) :
    hi m / 2 ^ n.toNat = hi (m / p2 n) ∧ bits .or .u64 (IntKind.u64.wrap (hi m * 2 ^ (64 - n).toNat)) (lo m / 2 ^ n.toNat) = lo (m / p2 n) ∧
    bits .and .u64 (lo m) (IntKind.u64.wrap (lo (p2 n) - 1)) = lo (m % p2 n) ∧ hi (m % p2 n) = 0 := by
  obtain ⟨k, rfl⟩ := Int.eq_ofNat_of_zero_le (show 0 ≤ n by omega)
  have e : ((64 : Int) - (k : Int)).toNat = 64 - k := by omega
  unfold p2
  rw [e, Int.toNat_natCast] at *
  have hk : k ≤ 64 := by omega
  have p := pow_split k hk
  have pm := and_mask (lo m) k (lo_nn m) (lo_lt m) hk
  have p1 := pow_pos' k
  have p2 := pow_pos' (64 - k)
  obtain ⟨b1, b2⟩ := hm.b
  have q2 : (2 : Int) ^ (64 - k) = 2 * 2 ^ (63 - k) := by
    rw [← Int.pow_succ']; congr 1; omega
  have q3 := pow_pos' (63 - k)
  generalize hP : (2 : Int) ^ k = P at *
  generalize hQ : (2 : Int) ^ (64 - k) = Q at *
  generalize (2 : Int) ^ (63 - k) = R at *
  have hPlt : P < 18446744073709551616 := by
    have := Int.mul_le_mul_of_nonneg_left (show (2 : Int) ≤ Q by omega) (Int.le_of_lt p1)
    omega
  have hl := hi_lo m
  have l0 := lo_nn m
  have l1 := lo_lt m
  -- hi m = P a + r, lo m = P b + s
  have d := Int.mul_ediv_add_emod (hi m) P
  have d0 := Int.emod_nonneg (hi m) (Int.ne_of_gt p1)
  have d1 := Int.emod_lt_of_pos (hi m) p1
  have f := Int.mul_ediv_add_emod (lo m) P
  have f0 := Int.emod_nonneg (lo m) (Int.ne_of_gt p1)
  have f1 := Int.emod_lt_of_pos (lo m) p1
  have a0 : 0 ≤ hi m / P := Int.ediv_nonneg b1 (Int.le_of_lt p1)
  have c0 : 0 ≤ lo m / P := Int.ediv_nonneg l0 (Int.le_of_lt p1)
  have c1 : lo m / P < Q := by
    apply Int.ediv_lt_of_lt_mul p1
    rw [Int.mul_comm, p]; exact l1
  have r0 : 0 ≤ hi m % P * Q := Int.mul_nonneg d0 (Int.le_of_lt p2)
  have r1 : hi m % P * Q + Q ≤ 18446744073709551616 := by
    have h := Int.mul_le_mul_of_nonneg_right (show hi m % P + 1 ≤ P by omega) (Int.le_of_lt p2)
    rw [p, Int.add_mul, Int.one_mul] at h
    exact h
  -- m = P (a 2^64 + r Q + b) + s
  have key : P * (hi m / P * 18446744073709551616 + (hi m % P * Q + lo m / P)) + lo m % P = m := by
    have h1 : P * (hi m / P * 18446744073709551616 + (hi m % P * Q + lo m / P)) = P * (hi m / P) * 18446744073709551616 + hi m % P * (P * Q) + P * (lo m / P) := by
      rw [Int.mul_add, Int.mul_add, ← Int.mul_assoc, Int.mul_left_comm P (hi m % P) Q]
      omega
    rw [h1, p]
    generalize P * (hi m / P) = A at *
    generalize P * (lo m / P) = B at *
    omega
  have hdiv : m / P = hi m / P * 18446744073709551616 + (hi m % P * Q + lo m / P) := by
    rw [← key, Int.add_comm, Int.add_mul_ediv_left _ _ (Int.ne_of_gt p1), Int.ediv_eq_zero_of_lt f0 f1, Int.zero_add]
    rw [Int.add_comm (lo m % P), key]
  have hmod : m % P = lo m % P := by
    have := Int.mul_ediv_add_emod m P
    rw [hdiv] at this
    generalize P * (hi m / P * 18446744073709551616 + (hi m % P * Q + lo m / P)) = A at *
    omega
  refine ⟨?_, ?_, ?_, ?_⟩
  · rw [hdiv]; exact (hi_eq rfl (by omega) (by omega)).symm
  · have w1 : IntKind.u64.wrap (hi m * Q) = hi m % P * Q := by
      rw [IntKind.wrap_u64]
      have h2 : hi m * Q = hi m % P * Q + 18446744073709551616 * (hi m / P) := by
        have : hi m * Q = (P * (hi m / P) + hi m % P) * Q := by rw [d]
        rw [this, Int.add_mul, Int.mul_right_comm, p]
        omega
      rw [h2, Int.add_mul_emod_self_left, Int.emod_eq_of_lt r0 (by omega)]
    rw [w1, or_disj _ _ (64 - k) r0 c0 (by rw [hQ]; exact c1) (by rw [hQ]; exact Int.mul_emod_left _ _) (by omega) (by omega), hdiv]
    exact (lo_eq rfl (by omega) (by omega)).symm
  · have e1 : lo P = P := by unfold lo; omega
    have e2 : lo (m % P) = m % P := by unfold lo; rw [hmod]; omega
    rw [e1, e2, hmod, IntKind.wrap_u64, Int.emod_eq_of_lt (by omega) (by omega)]; exact pm
  · unfold hi; rw [hmod]; omega
theorem shr_hi (m n : Int) (hm : U128 m) (hn : 64 ≤ n) (hn2 : n ≤ 126) :
    hi m / 2 ^ (n - 64).toNat = lo (m / p2 n) ∧ hi (m / p2 n) = 0 ∧ bits .and .u64 (hi m) (IntKind.u64.wrap (hi (p2 n) - 1)) = hi (m % p2 n) ∧ lo m = lo (m % p2 n) := by
  obtain ⟨k, rfl⟩ : ∃ k : Nat, n = 64 + k := ⟨(n - 64).toNat, by omega⟩
  have e1 : ((64 : Int) + k - 64).toNat = k := by omega
  have e2 : ((64 : Int) + k).toNat = 64 + k := by omega
  unfold p2
  rw [e1, e2]
  have e : (2 : Int) ^ (64 + k) = 2 ^ k * 18446744073709551616 := by rw [Int.pow_add, Int.mul_comm]; rfl
  obtain ⟨b1, b2⟩ := hm.b
  have pm := and_mask (hi m) k b1 b2 (by omega)
  have p1 := pow_pos' k
  have q := pow_split k (by omega)
  have q4 := pow_pos' (64 - k)
  rw [e]
  generalize (2 : Int) ^ k = P at *
  generalize (2 : Int) ^ (64 - k) = Q at *
  have hl := hi_lo m
  have l0 := lo_nn m
  have l1 := lo_lt m
  have d := Int.mul_ediv_add_emod (hi m) P
  have d0 := Int.emod_nonneg (hi m) (Int.ne_of_gt p1)
  have d1 := Int.emod_lt_of_pos (hi m) p1
  have a0 : 0 ≤ hi m / P := Int.ediv_nonneg b1 (Int.le_of_lt p1)
  have a1 : hi m / P ≤ hi m := Int.ediv_le_self _ b1
  have key : P * 18446744073709551616 * (hi m / P) + (hi m % P * 18446744073709551616 + lo m) = m := by
    rw [Int.mul_right_comm]
    generalize P * (hi m / P) = A at *
    omega
  have pp : 0 < P * 18446744073709551616 := by omega
  have s0 : 0 ≤ hi m % P * 18446744073709551616 + lo m := by omega
  have s1 : hi m % P * 18446744073709551616 + lo m < P * 18446744073709551616 := by omega
  have hdiv : m / (P * 18446744073709551616) = hi m / P := by
    have : m = (hi m % P * 18446744073709551616 + lo m) + P * 18446744073709551616 * (hi m / P) := by omega
    rw [this, Int.add_mul_ediv_left _ _ (Int.ne_of_gt pp), Int.ediv_eq_zero_of_lt s0 s1, Int.zero_add]
    rw [← this]
  have hmod : m % (P * 18446744073709551616) = hi m % P * 18446744073709551616 + lo m := by
    have := Int.mul_ediv_add_emod m (P * 18446744073709551616)
    rw [hdiv] at this
    generalize P * 18446744073709551616 * (hi m / P) = A at *
    omega
  refine ⟨?_, ?_, ?_, ?_⟩
  · rw [hdiv]; generalize hi m / P = A at *; unfold lo; omega
  · rw [hdiv]; exact hi_eq (b := hi m / P) (by omega) a0 (by omega)
  · rw [hmod]
    have h1 : hi (P * 18446744073709551616) = P := by unfold hi; omega
    have q5 : P ≤ 18446744073709551616 := by
      rw [← q]
      have := Int.mul_le_mul_of_nonneg_left (show (1 : Int) ≤ Q by omega) (Int.le_of_lt p1)
      rwa [Int.mul_one] at this
    rw [h1, IntKind.wrap_u64, Int.emod_eq_of_lt (by omega) (by omega), pm]
    exact (hi_eq rfl l0 l1).symm
  · rw [hmod]; exact (lo_eq rfl l0 l1).symm
theorem rest_facts (m d : Int) (h0 : 0 ≤ m) (hd : 0 < d) : 0 ≤ m / d ∧ 0 ≤ m % d ∧ m % d < d ∧ m / d ≤ m :=
  ⟨Int.ediv_nonneg h0 (Int.le_of_lt hd), Int.emod_nonneg _ (Int.ne_of_gt hd), Int.emod_lt_of_pos _ hd, Int.ediv_le_self _ h0⟩
theorem near0_up {m d : Int} (h : d - m % d < m % d ∨ (d - m % d = m % d ∧ m / d % 2 = 1)) : near0 m d = m / d + 1 := by unfold near0; rw [if_pos h]
theorem near0_down {m d : Int} (h : ¬ (d - m % d < m % d ∨ (d - m % d = m % d ∧ m / d % 2 = 1))) : near0 m d = m / d := by unfold near0; rw [if_neg h]
theorem near_mag (x d : Int) : near x d = sg (decide (x < 0)) (near0 (mag x) d) := by
  unfold near mag sg
  by_cases h : x < 0 <;> simp [h]
theorem lo_mod2 (q : Int) : lo q % 2 = q % 2 := by unfold lo; omega
theorem near0_nn {m d : Int} (h0 : 0 ≤ m) (hd : 0 < d) : 0 ≤ near0 m d := by
  have := Int.ediv_nonneg h0 (Int.le_of_lt hd)
  unfold near0; split <;> omega
end Go.Proofs.YtfimmcnfmipnlaaDoor
