/- ref91: Near. ref2: Word, Near. -/
import Derived.Test.YtjmecongccjcgaaInts2
import Derived.Deep.DeepCutAuto
namespace Go.Proofs.Ytjmecongccjcgaa
open Go.RowKit
/-- Half to even, as the reference has it: q is twice n / d, rounded down. -/
theorem half_is {n d : Int} (hd : 0 < d) (x : Int) (hx : x = if (n * 2 / d) / 2 * 2 = n * 2 / d then (n * 2 / d) / 2 else if n * 2 % d ≠ 0 then (n * 2 / d) / 2 + 1 else if (n * 2 / d) / 2 / 2 * 2 = (n * 2 / d) / 2 then (n * 2 / d) / 2 else (n * 2 / d) / 2 + 1) : x = near n d := by
  have e := Int.ediv_mul_add_emod (n * 2) d
  have r0 := Int.emod_nonneg (n * 2) (show d ≠ 0 by omega)
  have r1 := Int.emod_lt_of_pos (n * 2) hd
  generalize n * 2 / d = q at *
  generalize n * 2 % d = r at *
  refine IsNear.eq hd ?_ (near_is n hd)
  unfold IsNear
  have hq : q = q / 2 * 2 + q % 2 := by omega
  generalize hh : q / 2 = h at *
  have e2 : q * d = h * d * 2 + q % 2 * d := by
    rw [Int.mul_right_comm, ← Int.add_mul, ← hq]
  have hodd : q % 2 = 0 ∨ q % 2 = 1 := by omega
  rcases hodd with h0 | h0
  · rw [h0, Int.zero_mul] at e2
    rw [if_pos (by omega)] at hx
    subst hx
    generalize x * d = k at *
    refine ⟨by omega, by omega, fun t => by omega⟩
  · rw [h0, Int.one_mul] at e2
    rw [if_neg (by omega)] at hx
    by_cases hr : r = 0
    · rw [if_neg (by omega)] at hx
      by_cases he : h / 2 * 2 = h
      · rw [if_pos he] at hx
        subst hx
        generalize x * d = k at *
        exact ⟨by omega, by omega, fun t => by omega⟩
      · rw [if_neg he] at hx
        subst hx
        rw [Int.add_mul, Int.one_mul]
        generalize h * d = k at *
        exact ⟨by omega, by omega, fun t => by omega⟩
    · rw [if_pos hr] at hx
      subst hx
      rw [Int.add_mul, Int.one_mul]
      generalize h * d = k at *
      exact ⟨by omega, by omega, fun t => by omega⟩
theorem cmp_e {x y : Int} (h : x = y) : (cmpI x y == 0) = true := by subst h; simp [cmpI]
theorem cmp_ne {x y : Int} (h : x ≠ y) : (cmpI x y == 0) = false := by
  have := cmp_nz h
  simpa [bne] using this
end Go.Proofs.Ytjmecongccjcgaa
