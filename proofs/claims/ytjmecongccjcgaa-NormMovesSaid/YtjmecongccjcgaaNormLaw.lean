/- The plain law of layer norm: sums over rows; what a word's norm is (IsNorm), and what it keeps to: no program in sight. -/
import Derived.Test.YtjmecongccjcgaaNearRoot
import Derived.Test.YtjmecongccjcgaaFx
import Derived.Test.YtjmecongccjcgaaShift
namespace Go.Proofs.Ytjmecongccjcgaa
/-- The sum of g 0 .. g (n - 1). -/
def sumN (g : Nat → Int) : Nat → Int
  | 0 => 0
  | n + 1 => sumN g n + g n
theorem sumN_congr {g h : Nat → Int} : ∀ {n : Nat}, (∀ i, i < n → g i = h i) → sumN g n = sumN h n
  | 0, _ => rfl
  | n + 1, H => by
    simp only [sumN]
    rw [sumN_congr (n := n) (fun i hi => H i (by omega)), H n (by omega)]
theorem sumN_le {g h : Nat → Int} : ∀ {n : Nat}, (∀ i, i < n → g i ≤ h i) → sumN g n ≤ sumN h n
  | 0, _ => Int.le_refl _
  | n + 1, H => by
    have a := sumN_le (n := n) (fun i hi => H i (by omega))
    have b := H n (by omega)
    simp only [sumN]; omega
theorem sumN_const (c : Int) : ∀ n : Nat, sumN (fun _ => c) n = n * c
  | 0 => by simp [sumN]
  | n + 1 => by
    simp only [sumN]
    rw [sumN_const c n, Int.natCast_succ, Int.add_mul]; omega
theorem sumN_mul (c : Int) (g : Nat → Int) : ∀ n : Nat, sumN (fun i => c * g i) n = c * sumN g n
  | 0 => by simp [sumN]
  | n + 1 => by simp only [sumN]; rw [sumN_mul c g n, Int.mul_add]
theorem sumN_add (g h : Nat → Int) : ∀ n : Nat, sumN (fun i => g i + h i) n = sumN g n + sumN h n
  | 0 => rfl
  | n + 1 => by simp only [sumN]; rw [sumN_add g h n]; omega
theorem sumN_neg (g : Nat → Int) : ∀ n : Nat, sumN (fun i => -g i) n = -sumN g n
  | 0 => rfl
  | n + 1 => by simp only [sumN]; rw [sumN_neg g n]; omega
theorem sumN_first (g : Nat → Int) : ∀ n : Nat, sumN g (n + 1) = g 0 + sumN (fun i => g (i + 1)) n
  | 0 => by simp [sumN]
  | n + 1 => by
    have := sumN_first g n
    rw [show sumN g (n + 1 + 1) = sumN g (n + 1) + g (n + 1) from rfl, this]
    simp only [sumN]; omega
theorem sumN_rev (g : Nat → Int) : ∀ n : Nat, sumN (fun i => g (n - 1 - i)) n = sumN g n
  | 0 => rfl
  | n + 1 => by
    rw [sumN_first, show sumN g (n + 1) = sumN g n + g n from rfl, ← sumN_rev g n]
    have : sumN (fun i => g (n + 1 - 1 - (i + 1))) n = sumN (fun i => g (n - 1 - i)) n := sumN_congr (fun i hi => by rw [show n + 1 - 1 - (i + 1) = n - 1 - i by omega])
    rw [this]
    simp only [Nat.add_sub_cancel, Nat.sub_zero]; omega
theorem sumN_nn {g : Nat → Int} (n : Nat) (h : ∀ i, i < n → 0 ≤ g i) : 0 ≤ sumN g n := by
  have := sumN_le (g := fun _ => 0) (h := g) h
  rw [sumN_const] at this; omega
theorem sumN_mem {g : Nat → Int} : ∀ {n k : Nat}, (∀ i, i < n → 0 ≤ g i) → k < n → g k ≤ sumN g n
  | 0, _, _, hk => by omega
  | n + 1, k, h, hk => by
    simp only [sumN]
    have h0 := h n (by omega)
    have hn := sumN_nn n (fun i hi => h i (by omega))
    rcases Nat.lt_succ_iff_lt_or_eq.1 hk with h1 | rfl
    · have := sumN_mem (n := n) (k := k) (fun i hi => h i (by omega)) h1
      omega
    · omega
theorem sumN_bd {g : Nat → Int} {B : Int} : ∀ {n : Nat}, (∀ i, i < n → -B ≤ g i ∧ g i ≤ B) → -((n : Int) * B) ≤ sumN g n ∧ sumN g n ≤ n * B
  | 0, _ => by simp [sumN]
  | n + 1, h => by
    obtain ⟨a, b⟩ := sumN_bd (n := n) (fun i hi => h i (by omega))
    obtain ⟨c, d⟩ := h n (by omega)
    simp only [sumN]
    rw [Int.natCast_succ, Int.add_mul]; omega
/-- n times a word less the sum of all. -/
def offN (g : Nat → Int) (n k : Nat) : Int := n * g k - sumN g n
/-- What is below the root. -/
def roomN (g : Nat → Int) (n : Nat) (eps f : Int) : Int := sumN (fun i => offN g n i * offN g n i) n + eps * ((n : Int) * n * n) * p2 f
/-- z is the k-th of the row's words normed. -/
def IsNorm (g : Nat → Int) (n : Nat) (eps f : Int) (k : Nat) (z : Int) : Prop :=
  ∃ r, NearRoot (offN g n k * offN g n k * n * p2 (2 * f)) (roomN g n eps f) r ∧ z = sg (decide (offN g n k < 0)) r
theorem sq_nn (x : Int) : 0 ≤ x * x := by
  rcases Int.le_total 0 x with h | h
  · exact Int.mul_nonneg h h
  · exact Int.mul_nonneg_of_nonpos_of_nonpos h h
theorem sq_mag {a b : Int} (h : mag a ≤ mag b) : a * a ≤ b * b := by
  have e : ∀ x : Int, x * x = mag x * mag x := fun x => by
    unfold mag; split
    · exact (Int.neg_mul_neg x x).symm
    · rfl
  rw [e a, e b]
  have : 0 ≤ mag a := by unfold mag; split <;> omega
  exact Int.mul_le_mul h h this (by omega)
theorem offN_congr {g h : Nat → Int} {n : Nat} (e : ∀ i, i < n → g i = h i) {k : Nat} (hk : k < n) : offN g n k = offN h n k := by
  unfold offN; rw [sumN_congr e, e k hk]
theorem roomN_congr {g h : Nat → Int} {n : Nat} (e : ∀ i, i < n → offN g n i * offN g n i = offN h n i * offN h n i) (eps f : Int) : roomN g n eps f = roomN h n eps f := by
  unfold roomN; rw [sumN_congr e]
theorem IsNorm.congr {g h : Nat → Int} {n : Nat} {eps f : Int} {k : Nat} {z : Int} (e : ∀ i, i < n → g i = h i) (hk : k < n) (H : IsNorm g n eps f k z) : IsNorm h n eps f k z := by
  obtain ⟨r, h1, h2⟩ := H
  refine ⟨r, ?_, ?_⟩
  · rw [← offN_congr e hk, ← roomN_congr (fun i hi => by rw [offN_congr e hi])]; exact h1
  · rw [← offN_congr e hk]; exact h2
theorem cube_pos {n : Nat} (h : 0 < n) : 0 < (n : Int) * n * n := by
  have : (0 : Int) < n := by omega
  exact Int.mul_pos (Int.mul_pos this this) this
theorem roomN_pos {g : Nat → Int} {n : Nat} {eps f : Int} (n0 : 0 < n) (e0 : 0 < eps) : 0 < roomN g n eps f := by
  unfold roomN
  have a := sumN_nn (g := fun i => offN g n i * offN g n i) n (fun i _ => sq_nn _)
  have b := Int.mul_pos (Int.mul_pos e0 (cube_pos n0)) (p2_pos f)
  omega
theorem off_room {g : Nat → Int} {n k : Nat} {eps f : Int} (n0 : 0 < n) (e0 : 0 < eps) (hk : k < n) : offN g n k * offN g n k ≤ roomN g n eps f := by
  unfold roomN
  have a := sumN_mem (g := fun i => offN g n i * offN g n i) (n := n) (k := k) (fun i _ => sq_nn _) hk
  have b := Int.mul_pos (Int.mul_pos e0 (cube_pos n0)) (p2_pos f)
  omega
theorem p2_bd {n : Int} (h : 0 ≤ n) (k : Nat) (hk : n ≤ k) : p2 n ≤ 2 ^ k := by
  unfold p2
  have := Nat.pow_le_pow_right (n := 2) (by omega) (show n.toNat ≤ k by omega)
  have e : ((2 ^ n.toNat : Nat) : Int) ≤ ((2 ^ k : Nat) : Int) := by exact_mod_cast this
  simpa using e
/-- Below the root there are at most n 4^f. -/
theorem norm_quot {g : Nat → Int} {n k : Nat} {eps f : Int} (n0 : 0 < n) (hn : n ≤ 24) (e0 : 0 < eps) (f0 : 0 ≤ f) (f1 : f ≤ 32) (hk : k < n) :
    offN g n k * offN g n k * n * p2 (2 * f) ≤ roomN g n eps f * 442721857769029238784 := by
  have a := off_room (f := f) n0 e0 hk (g := g)
  have b := sq_nn (offN g n k)
  have c : p2 (2 * f) ≤ 18446744073709551616 := p2_bd (by omega) 64 (by omega)
  have d : (n : Int) * p2 (2 * f) ≤ 442721857769029238784 := by
    have := Int.mul_le_mul (show (n : Int) ≤ 24 by omega) c (Int.le_of_lt (p2_pos _)) (by omega)
    omega
  rw [Int.mul_assoc]
  exact Int.mul_le_mul a d (Int.mul_nonneg (by omega) (Int.le_of_lt (p2_pos _))) (Int.le_of_lt (roomN_pos n0 e0))
theorem norm_div {g : Nat → Int} {n k : Nat} {eps f : Int} (n0 : 0 < n) (hn : n ≤ 24) (e0 : 0 < eps) (f0 : 0 ≤ f) (f1 : f ≤ 32) (hk : k < n) :
    0 ≤ offN g n k * offN g n k * n * p2 (2 * f) ∧ offN g n k * offN g n k * n * p2 (2 * f) / roomN g n eps f < 2 ^ 120 := by
  have a := norm_quot (g := g) n0 hn e0 f0 f1 hk
  have b := roomN_pos (g := g) (f := f) n0 e0
  refine ⟨Int.mul_nonneg (Int.mul_nonneg (sq_nn _) (by omega)) (Int.le_of_lt (p2_pos _)), ?_⟩
  refine Int.ediv_lt_of_lt_mul b (Int.lt_of_le_of_lt a ?_)
  rw [Int.mul_comm]
  exact Int.mul_lt_mul_of_pos_right (by decide) b
theorem mag_sg' {b : Bool} {r : Int} (r0 : 0 ≤ r) : mag (sg b r) = r := by
  unfold mag sg; cases b <;> simp <;> omega
/-- A word normed is a word. -/
theorem IsNorm.good {g : Nat → Int} {n k : Nat} {eps f z : Int} (h : IsNorm g n eps f k z) (n0 : 0 < n) (hn : n ≤ 24) (e0 : 0 < eps) (f0 : 0 ≤ f) (f1 : f ≤ 32) (hk : k < n) : gd z = true := by
  obtain ⟨r, h1, rfl⟩ := h
  have a := norm_quot (g := g) n0 hn e0 f0 f1 hk
  have b := roomN_pos (g := g) (f := f) n0 e0
  have c : r < 140737488355328 := near_root_lt b (by omega) h1 (by
    have : (2 * 140737488355328 - 1) * (2 * 140737488355328 - 1) * roomN g n eps f = roomN g n eps f * 79228162514263774643590529025 := by rw [Int.mul_comm]; rfl
    rw [this]
    omega)
  have r0 := h1.1
  rw [gd_iff]
  unfold sg; split <;> omega
theorem IsNorm.only {g : Nat → Int} {n k : Nat} {eps f z y : Int} (h : IsNorm g n eps f k z) (h' : IsNorm g n eps f k y) (n0 : 0 < n) (e0 : 0 < eps) : z = y := by
  obtain ⟨r, h1, rfl⟩ := h
  obtain ⟨s, h2, rfl⟩ := h'
  rw [near_root_only (roomN_pos n0 e0) h1 h2]
/-- Two rows of the same words less their means, up to a place. -/
theorem IsNorm.moved {g h : Nat → Int} {n k j : Nat} {eps f z : Int} (H : IsNorm g n eps f k z) (e1 : sumN (fun i => offN g n i * offN g n i) n = sumN (fun i => offN h n i * offN h n i) n) (e2 : offN g n k = offN h n j) : IsNorm h n eps f j z := by
  obtain ⟨r, h1, h2⟩ := H
  refine ⟨r, ?_, by rw [← e2]; exact h2⟩
  rw [← e2]
  unfold roomN
  rw [← e1]
  exact h1
/-- Words the other way round. -/
theorem IsNorm.rev {g h : Nat → Int} {n k : Nat} {eps f z : Int} (H : IsNorm g n eps f k z) (e : ∀ i, i < n → h i = g (n - 1 - i)) (hk : k < n) : IsNorm h n eps f (n - 1 - k) z := by
  have es : sumN h n = sumN g n := by rw [sumN_congr e, sumN_rev]
  have eo : ∀ i, i < n → offN h n i = offN g n (n - 1 - i) := fun i hi => by unfold offN; rw [es, e i hi]
  refine H.moved ?_ ?_
  · exact (sumN_rev (fun j => offN g n j * offN g n j) n).symm.trans (sumN_congr (fun i hi => by simp only [eo i hi]))
  · rw [eo _ (by omega), show n - 1 - (n - 1 - k) = k by omega]
/-- Of one word there is 0. -/
theorem IsNorm.one {g : Nat → Int} {eps f z : Int} (H : IsNorm g 1 eps f 0 z) (e0 : 0 < eps) : z = 0 := by
  obtain ⟨r, h1, rfl⟩ := H
  have e : offN g 1 0 = 0 := by simp [offN, sumN]
  rw [e] at h1 ⊢
  have b := roomN_pos (g := g) (n := 1) (eps := eps) (f := f) (by omega) e0
  have := near_root_lt (m := 1) b (by omega) h1 (by simp; exact b)
  have r0 := h1.1
  simp [sg]; omega
theorem off_shift {g h : Nat → Int} {n k : Nat} {c : Int} (e : ∀ i, i < n → h i = g i + c) (hk : k < n) : offN h n k = offN g n k := by
  unfold offN
  rw [sumN_congr e, sumN_add, sumN_const, e k hk, Int.mul_add]; omega
/-- With a word added to all. -/
theorem IsNorm.shift {g h : Nat → Int} {n k : Nat} {eps f z c : Int} (H : IsNorm g n eps f k z) (e : ∀ i, i < n → h i = g i + c) (hk : k < n) : IsNorm h n eps f k z :=
  H.moved (sumN_congr (fun i hi => by rw [off_shift e hi])) (off_shift e hk).symm
theorem off_neg {g h : Nat → Int} {n k : Nat} (e : ∀ i, i < n → h i = -g i) (hk : k < n) : offN h n k = -offN g n k := by
  unfold offN
  rw [sumN_congr e, sumN_neg, e k hk, Int.mul_neg]; omega
theorem near_zero {d r : Int} (d0 : 0 < d) (h : NearRoot 0 d r) : r = 0 := by
  have := near_root_lt (m := 1) d0 (by omega) h (by simp; exact d0)
  have r0 := h.1
  omega
/-- Of the negatives. -/
theorem IsNorm.neg {g h : Nat → Int} {n k : Nat} {eps f z : Int} (H : IsNorm g n eps f k z) (e : ∀ i, i < n → h i = -g i) (hk : k < n) (n0 : 0 < n) (e0 : 0 < eps) : IsNorm h n eps f k (-z) := by
  obtain ⟨r, h1, rfl⟩ := H
  have er : roomN h n eps f = roomN g n eps f := roomN_congr (fun i hi => by rw [off_neg e hi, Int.neg_mul_neg]) eps f
  refine ⟨r, ?_, ?_⟩
  · rw [er, off_neg e hk, Int.neg_mul_neg]; exact h1
  · rw [off_neg e hk]
    rcases Int.lt_trichotomy (offN g n k) 0 with h | h | h
    · have a : decide (offN g n k < 0) = true := by simpa using h
      have b : decide (-offN g n k < 0) = false := by simp; omega
      rw [a, b]; simp [sg]
    · rw [h] at h1 ⊢
      have := near_zero (roomN_pos n0 e0) (by simpa using h1)
      subst this
      simp [sg]
    · have a : decide (offN g n k < 0) = false := by simp; omega
      have b : decide (-offN g n k < 0) = true := by simp; omega
      rw [a, b]; simp [sg]
/-- The greater word is not lower. -/
theorem IsNorm.le {g : Nat → Int} {n j k : Nat} {eps f z y : Int} (H : IsNorm g n eps f j z) (H' : IsNorm g n eps f k y) (n0 : 0 < n) (e0 : 0 < eps) (h : g j ≤ g k) : z ≤ y := by
  obtain ⟨r, h1, rfl⟩ := H
  obtain ⟨s, h2, rfl⟩ := H'
  have o : offN g n j ≤ offN g n k := by
    unfold offN
    have := Int.mul_le_mul_of_nonneg_left h (show (0 : Int) ≤ n by omega)
    omega
  have r0 := h1.1
  have s0 := h2.1
  have d0 := roomN_pos (g := g) (f := f) n0 e0
  have up : ∀ {a b : Int}, mag a ≤ mag b → a * a * n * p2 (2 * f) ≤ b * b * n * p2 (2 * f) := fun h =>
    Int.mul_le_mul_of_nonneg_right (Int.mul_le_mul_of_nonneg_right (sq_mag h) (by omega)) (Int.le_of_lt (p2_pos _))
  by_cases a : offN g n j < 0 <;> by_cases b : offN g n k < 0
  · have := near_root_le d0 h2 h1 (up (by unfold mag; simp [a, b]; omega))
    simp [sg, a, b]; omega
  · simp [sg, a, b]; omega
  · omega
  · have := near_root_le d0 h1 h2 (up (by unfold mag; simp [a, b]; omega))
    simp [sg, a, b]; omega
theorem IsNorm.eq {g : Nat → Int} {n j k : Nat} {eps f z y : Int} (H : IsNorm g n eps f j z) (H' : IsNorm g n eps f k y) (n0 : 0 < n) (e0 : 0 < eps) (h : g j = g k) : z = y :=
  Int.le_antisymm (H.le H' n0 e0 (Int.le_of_eq h)) (H'.le H n0 e0 (Int.le_of_eq h.symm))
/-- The square of twice a word's size less 1, if that is above 0. -/
def sq1 (z : Int) : Int := if 0 < 2 * mag z - 1 then (2 * mag z - 1) * (2 * mag z - 1) else 0
theorem IsNorm.sq {g : Nat → Int} {n k : Nat} {eps f z : Int} (H : IsNorm g n eps f k z) : sq1 z * roomN g n eps f ≤ 4 * (n * p2 (2 * f)) * (offN g n k * offN g n k) := by
  obtain ⟨r, h1, rfl⟩ := H
  have r0 := h1.1
  have e : 4 * (n * p2 (2 * f)) * (offN g n k * offN g n k) = 4 * (offN g n k * offN g n k * n * p2 (2 * f)) := by grind
  rw [e]
  unfold sq1
  rw [mag_sg' r0]
  split
  · exact h1.2.1 (by omega)
  · rw [Int.zero_mul]
    have := Int.mul_nonneg (Int.mul_nonneg (sq_nn (offN g n k)) (show (0 : Int) ≤ n by omega)) (Int.le_of_lt (p2_pos (2 * f)))
    omega
/-- The squares are together not above 4 n 4^f. -/
theorem norm_squares {g z : Nat → Int} {n : Nat} {eps f : Int} (H : ∀ k, k < n → IsNorm g n eps f k (z k)) (n0 : 0 < n) (e0 : 0 < eps) : sumN (fun k => sq1 (z k)) n ≤ n * (4 * p2 (2 * f)) := by
  have d0 := roomN_pos (g := g) (f := f) n0 e0
  have a := sumN_le (n := n) (g := fun k => roomN g n eps f * sq1 (z k)) (h := fun k => 4 * (n * p2 (2 * f)) * (offN g n k * offN g n k)) (fun k hk => by
    rw [Int.mul_comm]; exact (H k hk).sq)
  rw [sumN_mul, sumN_mul] at a
  have b : sumN (fun k => offN g n k * offN g n k) n ≤ roomN g n eps f := by
    unfold roomN
    have := Int.mul_pos (Int.mul_pos e0 (cube_pos n0)) (p2_pos f)
    omega
  have c : 0 ≤ 4 * ((n : Int) * p2 (2 * f)) := by
    have := Int.mul_nonneg (show (0 : Int) ≤ n by omega) (Int.le_of_lt (p2_pos (2 * f)))
    omega
  have d := Int.le_trans a (Int.mul_le_mul_of_nonneg_left b c)
  rw [Int.mul_comm (roomN g n eps f)] at d
  have := Int.le_of_mul_le_mul_right d d0
  have e : 4 * ((n : Int) * p2 (2 * f)) = n * (4 * p2 (2 * f)) := by grind
  omega
/-- How far words less their means lie from 0. -/
theorem offN_bd {g : Nat → Int} {n k : Nat} (hg : ∀ i, i < n → -140737488355328 < g i ∧ g i < 140737488355328) (hn : n ≤ 24) (hk : k < n) :
    (-3377699720527872 ≤ (n : Int) * g k ∧ (n : Int) * g k ≤ 3377699720527872) ∧ (-3377699720527872 ≤ sumN g n ∧ sumN g n ≤ 3377699720527872) ∧ -6755399441055744 ≤ offN g n k ∧ offN g n k ≤ 6755399441055744 := by
  have s := sumN_bd (g := g) (n := n) (B := 140737488355328) (fun i hi => by have := hg i hi; omega)
  obtain ⟨a, b⟩ := hg k hk
  have up : (n : Int) * 140737488355328 ≤ 3377699720527872 := by omega
  have l1 := Int.mul_le_mul_of_nonneg_left (show g k ≤ 140737488355328 by omega) (show (0 : Int) ≤ n by omega)
  have l2 := Int.mul_le_mul_of_nonneg_left (show -140737488355328 ≤ g k by omega) (show (0 : Int) ≤ n by omega)
  rw [Int.mul_neg] at l2
  unfold offN
  refine ⟨⟨by omega, by omega⟩, ⟨by omega, by omega⟩, by omega, by omega⟩
end Go.Proofs.Ytjmecongccjcgaa
