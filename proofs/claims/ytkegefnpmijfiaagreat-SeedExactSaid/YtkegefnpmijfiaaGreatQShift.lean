/- wide.Shift, by fewer than 64 bits; what it tells. -/
import Derived.Test.YtkegefnpmijfiaaGreatQFx
import Derived.Test.YtkegefnpmijfiaaGreatQLeft
namespace Go.Proofs.YtkegefnpmijfiaaGreat
open Go.RowKit
/-- 2^n, closed to the walk. -/
def p2 (n : Int) : Int := 2 ^ n.toNat
theorem p2_pos (n : Int) : 0 < p2 n := pow_pos' _
/-- m / d to the nearest, of two that are as near the even one; m from 0 on, d above 0. -/
def near0 (m d : Int) : Int := if d - m % d < m % d ∨ (d - m % d = m % d ∧ m / d % 2 = 1) then m / d + 1 else m / d
def near (x d : Int) : Int := if x < 0 then -near0 (-x) d else near0 x d
theorem size_sub' (x y : Int) (w : World) (hx : U128 x) (hy : U128 y) (h : 0 ≤ x - y) :
    Calls Tryz.prog 234 #[.agg #[.int .u64 (hi x), .int .u64 (lo x)], .agg #[.int .u64 (hi y), .int .u64 (lo y)]] w fun e w' => e = .returned (.agg #[.int .u64 (hi (x - y)), .int .u64 (lo (x - y))]) ∧ Ext w w' := by
  have e : m128 (x - y) = x - y := by obtain ⟨h1, h2⟩ := hx; obtain ⟨h3, h4⟩ := hy; unfold m128; omega
  have := size_sub x y w hx hy
  rwa [e] at this
theorem size_next' (x : Int) (w : World) (h0 : 0 ≤ x) (h : x < 170141183460469231731687303715884105728) :
    Calls Tryz.prog 296 #[.agg #[.int .u64 (hi x), .int .u64 (lo x)]] w fun e w' => e = .returned (.agg #[.int .u64 (hi (x + 1)), .int .u64 (lo (x + 1))]) ∧ Ext w w' := by
  have e : m128 (x + 1) = x + 1 := by unfold m128; omega
  have := size_next x w ⟨h0, by omega⟩
  rwa [e] at this
theorem and_mask (a : Int) (k : Nat) (h1 : 0 ≤ a) (h2 : a < 18446744073709551616) (hk : k ≤ 64) : bits .and .u64 a (2 ^ k - 1) = a % 2 ^ k := by
  obtain ⟨a, rfl⟩ := Int.eq_ofNat_of_zero_le h1
  have p : 2 ^ k ≤ 2 ^ 64 := Nat.pow_le_pow_right (by omega) hk
  have p1 : 0 < 2 ^ k := Nat.pow_pos (by omega)
  have e : ((2 : Int) ^ k - 1) = ((2 ^ k - 1 : Nat) : Int) := by rw [Int.natCast_sub (by omega)]; simp
  rw [e, u64_and_nat a (2 ^ k - 1) (by omega) (by omega), Nat.and_two_pow_sub_one_eq_mod]
  simp
theorem rest_facts (m d : Int) (h0 : 0 ≤ m) (hd : 0 < d) : 0 ≤ m / d ∧ 0 ≤ m % d ∧ m % d < d ∧ m / d ≤ m :=
  ⟨Int.ediv_nonneg h0 (Int.le_of_lt hd), Int.emod_nonneg _ (Int.ne_of_gt hd), Int.emod_lt_of_pos _ hd, Int.ediv_le_self _ h0⟩
theorem near0_up {m d : Int} (h : d - m % d < m % d ∨ (d - m % d = m % d ∧ m / d % 2 = 1)) : near0 m d = m / d + 1 := by unfold near0; rw [if_pos h]
theorem near0_down {m d : Int} (h : ¬ (d - m % d < m % d ∨ (d - m % d = m % d ∧ m / d % 2 = 1))) : near0 m d = m / d := by unfold near0; rw [if_neg h]
theorem near_mag (x d : Int) : near x d = sg (decide (x < 0)) (near0 (mag x) d) := by
  unfold near mag sg
  by_cases h : x < 0 <;> simp [h]
theorem lo_mod2 (q : Int) : lo q % 2 = q % 2 := by unfold lo; omega
end Go.Proofs.YtkegefnpmijfiaaGreat
