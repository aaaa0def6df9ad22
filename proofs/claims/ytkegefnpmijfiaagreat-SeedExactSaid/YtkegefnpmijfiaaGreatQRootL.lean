/- The nearest root, halves to even: the plain law. What the laws of layer 25 say, in plain numbers. -/
import Derived.Test.YtkegefnpmijfiaaGreatQW3
import Derived.Test.YtkegefnpmijfiaaGreatQShuffle
import Derived.Test.YtkegefnpmijfiaaGreatQNearsP
namespace Go.Proofs.YtkegefnpmijfiaaGreat
/-- r is the nearest whole number to the root of n / d, halves to even. -/
def NearRoot (n d r : Int) : Prop :=
  0 ≤ r ∧ (0 < r → (2 * r - 1) * (2 * r - 1) * d ≤ 4 * n) ∧ 4 * n ≤ (2 * r + 1) * (2 * r + 1) * d ∧
    ((2 * r + 1) * (2 * r + 1) * d = 4 * n → r % 2 = 0) ∧ (0 < r → (2 * r - 1) * (2 * r - 1) * d = 4 * n → r % 2 = 0)
theorem odd_up (x d : Int) : (2 * x + 1) * (2 * x + 1) * d = 4 * (x * x * d) + 4 * (x * d) + d := by grind
theorem odd_low (x d : Int) : (2 * x - 1) * (2 * x - 1) * d = 4 * (x * x * d) - 4 * (x * d) + d := by grind
theorem sq_up (x d : Int) : (x + 1) * (x + 1) * d = x * x * d + 2 * (x * d) + d := by grind
theorem root_between {n d x : Int} (hd : 0 < d) (h : IsRoot (n / d) x) : x * x * d ≤ n ∧ n < (x + 1) * (x + 1) * d := by
  obtain ⟨_, h1, h2⟩ := h
  refine ⟨Int.mul_le_of_le_ediv hd h1, ?_⟩
  have a : n < (n / d + 1) * d := Int.lt_mul_of_ediv_lt hd (Int.lt_succ _)
  have b : (n / d + 1) * d ≤ (x + 1) * (x + 1) * d := Int.mul_le_mul_of_nonneg_right (by omega) (by omega)
  omega
theorem near_up {n d x : Int} (hd : 0 < d) (h : IsRoot (n / d) x) (hc : (2 * x + 1) * (2 * x + 1) * d < 4 * n ∨ (2 * x + 1) * (2 * x + 1) * d = 4 * n ∧ x % 2 ≠ 0) : NearRoot n d (x + 1) := by
  obtain ⟨b1, b2⟩ := root_between hd h
  have x0 := h.1
  have f0 : 0 ≤ x * d := Int.mul_nonneg x0 (by omega)
  rw [sq_up] at b2
  have e1 := odd_up x d
  have e3 : (2 * (x + 1) - 1) * (2 * (x + 1) - 1) * d = (2 * x + 1) * (2 * x + 1) * d := by rw [show 2 * (x + 1) - 1 = 2 * x + 1 by omega]
  have e2 : (2 * (x + 1) + 1) * (2 * (x + 1) + 1) * d = 4 * (x * x * d) + 12 * (x * d) + 9 * d := by grind
  unfold NearRoot
  rw [e3, e2]
  refine ⟨by omega, by omega, by omega, by omega, ?_⟩
  intro _ h
  rcases hc with hc | ⟨_, hc⟩ <;> omega
theorem near_stay {n d x : Int} (hd : 0 < d) (h : IsRoot (n / d) x) (hc : 4 * n < (2 * x + 1) * (2 * x + 1) * d ∨ (2 * x + 1) * (2 * x + 1) * d = 4 * n ∧ x % 2 = 0) : NearRoot n d x := by
  obtain ⟨b1, b2⟩ := root_between hd h
  have x0 := h.1
  have f0 : 0 ≤ x * d := Int.mul_nonneg x0 (by omega)
  have e1 := odd_low x d
  have f1 : 0 < x → d ≤ x * d := fun hx => by
    have := Int.mul_le_mul_of_nonneg_right (show 1 ≤ x by omega) (show 0 ≤ d by omega)
    omega
  refine ⟨x0, ?_, by omega, ?_, ?_⟩
  · intro hx
    have := f1 hx
    omega
  · intro _
    omega
  · intro hx
    have := f1 hx
    omega
/-- Roots rise as their numbers do: below n / d is not above m / e. -/
theorem near_root_le {n m d r s : Int} (hd : 0 < d) (hr : NearRoot n d r) (hs : NearRoot m d s) (h : n ≤ m) : r ≤ s := by
  obtain ⟨r0, r1, r2, r3, r4⟩ := hr
  obtain ⟨s0, s1, s2, s3, s4⟩ := hs
  rcases Int.lt_or_le s r with h' | h'
  · exfalso
    have a := r1 (by omega)
    have b : (2 * s + 1) * (2 * s + 1) * d ≤ (2 * r - 1) * (2 * r - 1) * d := Int.mul_le_mul_of_nonneg_right (sq_le (by omega) (by omega)) (by omega)
    have e1 := s3 (by omega)
    have e2 := r4 (by omega) (by omega)
    have c : (2 * s + 1) * (2 * s + 1) * d < (2 * r - 1) * (2 * r - 1) * d := by
      have := sq_le (a := 2 * s + 3) (b := 2 * r - 1) (by omega) (by omega)
      exact Int.mul_lt_mul_of_pos_right (by have e : (2 * s + 3) * (2 * s + 3) = (2 * s + 1) * (2 * s + 1) + 8 * s + 8 := by grind
                                            omega) hd
    omega
  · exact h'
/-- The nearest root is one. -/
theorem near_root_only {n d r s : Int} (hd : 0 < d) (hr : NearRoot n d r) (hs : NearRoot n d s) : r = s :=
  Int.le_antisymm (near_root_le hd hr hs (Int.le_refl _)) (near_root_le hd hs hr (Int.le_refl _))
/-- A root is below what is not below its square. -/
theorem near_root_lt {n d r m : Int} (hd : 0 < d) (m0 : 0 < m) (hr : NearRoot n d r) (h : 4 * n < (2 * m - 1) * (2 * m - 1) * d) : r < m := by
  obtain ⟨r0, r1, -⟩ := hr
  rcases Int.lt_or_le r m with h' | h'
  · exact h'
  · exfalso
    have a := r1 (by omega)
    have b : (2 * m - 1) * (2 * m - 1) * d ≤ (2 * r - 1) * (2 * r - 1) * d := Int.mul_le_mul_of_nonneg_right (sq_le (by omega) (by omega)) (by omega)
    omega
end Go.Proofs.YtkegefnpmijfiaaGreat
namespace Go.Proofs.YtkegefnpmijfiaaGreat
open Go.RowKit
/-- Words from -a to a, by draws. -/
noncomputable def fillG (a : Int) : Nat → Gen → List Int × Gen
  | 0, g => ([], g)
  | n + 1, g => ((fillG a n g).1 ++ [(fillG a n g).2.below (2 * a + 1) - a], (fillG a n g).2.past (2 * a + 1))
theorem fillG_len (a : Int) (n : Nat) (g : Gen) : (fillG a n g).1.length = n := by
  induction n with
  | zero => rfl
  | succ n ih => simp [fillG, ih]
/-- A word's bound: 6 over so many, and its root. -/
theorem ratio6 {n f : Int} (n0 : 0 < n) (hf : gdF f = true) : 0 ≤ dv 6 n f ∧ dv 6 n f ≤ 6 * p2 f ∧ de 6 n f = 0 ∧ gd (dv 6 n f) = true := by
  obtain ⟨p1, p3⟩ := p2_gdF hf
  have hn : n ≠ 0 := by omega
  obtain ⟨r1, r2⟩ : 0 ≤ rdiv (6 * p2 f) n ∧ rdiv (6 * p2 f) n ≤ 6 * p2 f := by
    rw [rdiv_near _ _ hn, if_neg (by omega), show mag n = n by unfold mag; rw [if_neg (by omega)]]
    obtain ⟨h1, h2, -⟩ := near_is (6 * p2 f) n0
    have hq : 0 ≤ 6 * p2 f := by omega
    generalize near (6 * p2 f) n = x at *
    generalize 6 * p2 f = q at *
    constructor
    · refine Int.not_lt.1 ?_
      intro h
      have := Int.mul_le_mul_of_nonneg_right (show x ≤ -1 by omega) (show 0 ≤ n by omega)
      omega
    · refine Int.not_lt.1 ?_
      intro h
      have a := Int.mul_le_mul_of_nonneg_right (show q + 1 ≤ x by omega) (show 0 ≤ n by omega)
      have b := Int.mul_le_mul_of_nonneg_left (show 1 ≤ n by omega) (show 0 ≤ q by omega)
      rw [Int.add_mul] at a
      omega
  have g : gd (rdiv (6 * p2 f) n) = true := gd_t (by omega) (by omega)
  rw [dv_ok hn, de_ok hn, wv_of g, we_of g]
  exact ⟨r1, r2, rfl, g⟩
theorem bound_lt {n f r : Int} (n0 : 0 < n) (hf : gdF f = true) (h : NearRoot (dv 6 n f * p2 f) 1 r) : 0 ≤ r ∧ r < 11000000000 := by
  obtain ⟨p1, p3⟩ := p2_gdF hf
  obtain ⟨r1, r2, -⟩ := ratio6 n0 hf
  have a := Int.mul_le_mul r2 p3 (by omega) (by omega)
  have b := Int.mul_le_mul_of_nonneg_left p3 (show (0 : Int) ≤ 6 * 4294967296 by decide)
  exact ⟨h.1, near_root_lt (m := 11000000000) (by decide) (by decide) h (by omega)⟩
end Go.Proofs.YtkegefnpmijfiaaGreat
