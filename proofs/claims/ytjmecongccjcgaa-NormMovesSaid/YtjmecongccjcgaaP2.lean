/- Powers of 2. -/
import Derived.Test.YtjmecongccjcgaaShift
namespace Go.Proofs.Ytjmecongccjcgaa
open Go.RowKit
theorem pow_mono' {B : Int} (hB : 1 ≤ B) {m n : Nat} (h : m ≤ n) : B ^ m ≤ B ^ n := by
  obtain ⟨k, rfl⟩ := Nat.exists_eq_add_of_le h
  rw [Int.pow_add]
  have h1 : (0 : Int) < B ^ m := Int.pow_pos (by omega)
  have h2 : (0 : Int) < B ^ k := Int.pow_pos (by omega)
  have := Int.mul_le_mul_of_nonneg_left (show (1 : Int) ≤ B ^ k by omega) (Int.le_of_lt h1)
  omega
theorem p2_gdF {f : Int} (h : gdF f = true) : 1 ≤ p2 f ∧ p2 f ≤ 4294967296 := by
  obtain ⟨f1, f2⟩ := gdF_iff.1 h
  have a := p2_pos f
  refine ⟨by omega, ?_⟩
  unfold p2
  exact Int.le_trans (pow_mono' (show (1 : Int) ≤ 2 by omega) (show f.toNat ≤ 32 by omega)) (by decide)
end Go.Proofs.Ytjmecongccjcgaa
