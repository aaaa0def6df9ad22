/- The nearest root, halves to even: the plain law. -/
import Derived.Test.YtjmecongccjcgaaW3
namespace Go.Proofs.Ytjmecongccjcgaa
/-- r is the nearest whole number to the root of n / d, halves to even. -/
def NearRoot (n d r : Int) : Prop :=
  0 ≤ r ∧ (0 < r → (2 * r - 1) * (2 * r - 1) * d ≤ 4 * n) ∧ 4 * n ≤ (2 * r + 1) * (2 * r + 1) * d ∧
    ((2 * r + 1) * (2 * r + 1) * d = 4 * n → r % 2 = 0) ∧ (0 < r → (2 * r - 1) * (2 * r - 1) * d = 4 * n → r % 2 = 0)
theorem odd_up (x d : Int) : (2 * x + 1) * (2 * x + 1) * d = 4 * (x * x * d) + 4 * (x * d) + d := by grind
theorem odd_low (x d : Int) : (2 * x - 1) * (2 * x - 1) * d = 4 * (x * x * d) - 4 * (x * d) + d := by grind
theorem sq_up (x d : Int) : (x + 1) * (x + 1) * d = x * x * d + 2 * (x * d) + d := by grind
theorem root_between {n d x : Int} (hd : 0 < d) (h : IsRoot (n / d) x) : x * x * d ≤ n ∧ n < (x + 1) * (x + 1) * d := by
  obtain ⟨_, h1, h2⟩ := h
  refine ⟨Int.mul_le_of_le_ediv hd h1, ?_⟩
  have a : n < (n / d + 1) * d := Int.lt_mul_of_ediv_lt hd (Int.lt_succ _)
  have b : (n / d + 1) * d ≤ (x + 1) * (x + 1) * d := Int.mul_le_mul_of_nonneg_right (by omega) (by omega)
  omega
theorem near_up {n d x : Int} (hd : 0 < d) (h : IsRoot (n / d) x) (hc : (2 * x + 1) * (2 * x + 1) * d < 4 * n ∨ (2 * x + 1) * (2 * x + 1) * d = 4 * n ∧ x % 2 ≠ 0) : NearRoot n d (x + 1) := by
  obtain ⟨b1, b2⟩ := root_between hd h
  have x0 := h.1
  have f0 : 0 ≤ x * d := Int.mul_nonneg x0 (by omega)
  rw [sq_up] at b2
  have e1 := odd_up x d
  have e3 : (2 * (x + 1) - 1) * (2 * (x + 1) - 1) * d = (2 * x + 1) * (2 * x + 1) * d := by rw [show 2 * (x + 1) - 1 = 2 * x + 1 by omega]
  have e2 : (2 * (x + 1) + 1) * (2 * (x + 1) + 1) * d = 4 * (x * x * d) + 12 * (x * d) + 9 * d := by grind
  unfold NearRoot
  rw [e3, e2]
  refine ⟨by omega, by omega, by omega, by omega, ?_⟩
  intro _ h
  rcases hc with hc | ⟨_, hc⟩ <;> omega
theorem near_stay {n d x : Int} (hd : 0 < d) (h : IsRoot (n / d) x) (hc : 4 * n < (2 * x + 1) * (2 * x + 1) * d ∨ (2 * x + 1) * (2 * x + 1) * d = 4 * n ∧ x % 2 = 0) : NearRoot n d x := by
  obtain ⟨b1, b2⟩ := root_between hd h
  have x0 := h.1
  have f0 : 0 ≤ x * d := Int.mul_nonneg x0 (by omega)
  have e1 := odd_low x d
  have f1 : 0 < x → d ≤ x * d := fun hx => by
    have := Int.mul_le_mul_of_nonneg_right (show 1 ≤ x by omega) (show 0 ≤ d by omega)
    omega
  refine ⟨x0, ?_, by omega, ?_, ?_⟩
  · intro hx
    have := f1 hx
    omega
  · intro _
    omega
  · intro hx
    have := f1 hx
    omega
/-- Roots rise as their numbers do: below n / d is not above m / e. -/
theorem near_root_le {n m d r s : Int} (hd : 0 < d) (hr : NearRoot n d r) (hs : NearRoot m d s) (h : n ≤ m) : r ≤ s := by
  obtain ⟨r0, r1, r2, r3, r4⟩ := hr
  obtain ⟨s0, s1, s2, s3, s4⟩ := hs
  rcases Int.lt_or_le s r with h' | h'
  · exfalso
    have a := r1 (by omega)
    have b : (2 * s + 1) * (2 * s + 1) * d ≤ (2 * r - 1) * (2 * r - 1) * d := Int.mul_le_mul_of_nonneg_right (sq_le (by omega) (by omega)) (by omega)
    have e1 := s3 (by omega)
    have e2 := r4 (by omega) (by omega)
    have c : (2 * s + 1) * (2 * s + 1) * d < (2 * r - 1) * (2 * r - 1) * d := by
      have := sq_le (a := 2 * s + 3) (b := 2 * r - 1) (by omega) (by omega)
      exact Int.mul_lt_mul_of_pos_right (by have e : (2 * s + 3) * (2 * s + 3) = (2 * s + 1) * (2 * s + 1) + 8 * s + 8 := by grind
                                            omega) hd
    omega
  · exact h'
/-- The nearest root is one. -/
theorem near_root_only {n d r s : Int} (hd : 0 < d) (hr : NearRoot n d r) (hs : NearRoot n d s) : r = s :=
  Int.le_antisymm (near_root_le hd hr hs (Int.le_refl _)) (near_root_le hd hs hr (Int.le_refl _))
/-- Of a greater divisor the root is not greater. -/
theorem near_root_ge {n a b r s : Int} (ha : 0 < a) (hr : NearRoot n a r) (hs : NearRoot n b s) (h : a ≤ b) : s ≤ r := by
  obtain ⟨r0, r1, r2, r3, r4⟩ := hr
  obtain ⟨s0, s1, s2, s3, s4⟩ := hs
  rcases Int.lt_or_le r s with h' | h'
  · exfalso
    have q := s1 (by omega)
    have g : 0 ≤ (2 * r + 1) * (2 * r + 1) := Int.mul_nonneg (by omega) (by omega)
    have g2 : (2 * r + 1) * (2 * r + 1) ≤ (2 * s - 1) * (2 * s - 1) := sq_le (by omega) (by omega)
    have b1 : (2 * r + 1) * (2 * r + 1) * a ≤ (2 * s - 1) * (2 * s - 1) * a := Int.mul_le_mul_of_nonneg_right g2 (by omega)
    have b2 : (2 * s - 1) * (2 * s - 1) * a ≤ (2 * s - 1) * (2 * s - 1) * b := Int.mul_le_mul_of_nonneg_left h (by omega)
    have e1 := r3 (by omega)
    have e2 := s4 (by omega) (by omega)
    have c : (2 * r + 1) * (2 * r + 1) * a < (2 * s - 1) * (2 * s - 1) * a := by
      have := sq_le (a := 2 * r + 3) (b := 2 * s - 1) (by omega) (by omega)
      exact Int.mul_lt_mul_of_pos_right (by have e : (2 * r + 3) * (2 * r + 3) = (2 * r + 1) * (2 * r + 1) + 8 * r + 8 := by grind
                                            omega) ha
    omega
  · exact h'
/-- The root of a square is its side. -/
theorem near_root_sq {x : Int} (x0 : 0 ≤ x) : NearRoot (x * x) 1 x := by
  have e1 := odd_up x 1
  have e2 := odd_low x 1
  simp only [Int.mul_one] at e1 e2
  refine ⟨x0, ?_, ?_, ?_, ?_⟩ <;> simp only [Int.mul_one] <;> omega
/-- Of 4 times the number the root is twice the root, or one off. -/
theorem near_root_four {n r s : Int} (hr : NearRoot n 1 r) (hs : NearRoot (4 * n) 1 s) : s - 2 * r ≤ 1 ∧ 2 * r - s ≤ 1 := by
  obtain ⟨r0, r1, r2, r3, r4⟩ := hr
  obtain ⟨s0, s1, s2, s3, s4⟩ := hs
  simp only [Int.mul_one] at *
  have f1 : 4 * ((2 * r + 1) * (2 * r + 1)) = (4 * r + 2) * (4 * r + 2) := by grind
  have f2 : 4 * ((2 * r - 1) * (2 * r - 1)) = (4 * r - 2) * (4 * r - 2) := by grind
  constructor
  · rcases Int.lt_or_le (s - 2 * r) 2 with h | h
    · omega
    · exfalso
      have a := s1 (by omega)
      have b := sq_le (a := 4 * r + 3) (b := 2 * s - 1) (by omega) (by omega)
      have c : (4 * r + 3) * (4 * r + 3) = (4 * r + 2) * (4 * r + 2) + 8 * r + 5 := by grind
      omega
  · rcases Int.lt_or_le (2 * r - s) 2 with h | h
    · omega
    · exfalso
      have a := r1 (by omega)
      have b := sq_le (a := 2 * s + 1) (b := 4 * r - 3) (by omega) (by omega)
      have c : (4 * r - 2) * (4 * r - 2) = (4 * r - 3) * (4 * r - 3) + 8 * r - 5 := by grind
      omega
/-- A root is below what is not below its square. -/
theorem near_root_lt {n d r m : Int} (hd : 0 < d) (m0 : 0 < m) (hr : NearRoot n d r) (h : 4 * n < (2 * m - 1) * (2 * m - 1) * d) : r < m := by
  obtain ⟨r0, r1, -⟩ := hr
  rcases Int.lt_or_le r m with h' | h'
  · exact h'
  · exfalso
    have a := r1 (by omega)
    have b : (2 * m - 1) * (2 * m - 1) * d ≤ (2 * r - 1) * (2 * r - 1) * d := Int.mul_le_mul_of_nonneg_right (sq_le (by omega) (by omega)) (by omega)
    omega
end Go.Proofs.Ytjmecongccjcgaa
