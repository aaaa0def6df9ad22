/- What is to the nearest: its bounds, it is the only one, it rises. -/
import Derived.Test.YtmbgaonnknaclaaDiv
namespace Go.Proofs.Ytmbgaonnknaclaa
/-- x is n / d to the nearest, of two that are as near the even one. -/
def IsNear (x n d : Int) : Prop := 2 * (x * d - n) ≤ d ∧ -d ≤ 2 * (x * d - n) ∧ (2 * (x * d - n) = d ∨ 2 * (x * d - n) = -d → x % 2 = 0)
theorem near0_is {m d : Int} (hd : 0 < d) : IsNear (near0 m d) m d := by
  have e := Int.ediv_mul_add_emod m d
  have r0 := Int.emod_nonneg m (show d ≠ 0 by omega)
  have r1 := Int.emod_lt_of_pos m hd
  unfold near0 IsNear
  split
  · rename_i h
    rw [Int.add_mul, Int.one_mul]
    generalize m / d * d = k at *
    refine ⟨by omega, by omega, fun t => ?_⟩
    omega
  · rename_i h
    generalize m / d * d = k at *
    refine ⟨by omega, by omega, fun t => ?_⟩
    omega
theorem near_is (n : Int) {d : Int} (hd : 0 < d) : IsNear (near n d) n d := by
  unfold near
  split
  · obtain ⟨h1, h2, h3⟩ := near0_is (m := -n) hd
    unfold IsNear
    rw [Int.neg_mul]
    generalize near0 (-n) d = y at *
    generalize y * d = k at *
    exact ⟨by omega, by omega, fun t => by have := h3 (by omega); omega⟩
  · exact near0_is hd
theorem IsNear.le {x y n m d : Int} (hd : 0 < d) (hx : IsNear x n d) (hy : IsNear y m d) (h : n ≤ m) : x ≤ y := by
  obtain ⟨a1, a2, a3⟩ := hx
  obtain ⟨b1, b2, b3⟩ := hy
  rcases Int.lt_or_le y x with h1 | h1
  · exfalso
    have e : x * d = (x - y - 1) * d + d + y * d := by rw [Int.sub_mul, Int.sub_mul]; omega
    have p : 0 ≤ (x - y - 1) * d := Int.mul_nonneg (by omega) (by omega)
    have q0 : (x - y - 1) * d = 0 := by omega
    have q1 : x - y - 1 = 0 := by
      rcases Int.mul_eq_zero.1 q0 with h | h <;> omega
    have t1 := a3 (by omega)
    have t2 := b3 (by omega)
    omega
  · exact h1
theorem IsNear.eq {x y n d : Int} (hd : 0 < d) (hx : IsNear x n d) (hy : IsNear y n d) : x = y :=
  Int.le_antisymm (hx.le hd hy (Int.le_refl _)) (hy.le hd hx (Int.le_refl _))
theorem near_le {n m d : Int} (hd : 0 < d) (h : n ≤ m) : near n d ≤ near m d := (near_is n hd).le hd (near_is m hd) h
theorem rdiv_near (n d : Int) (_h : d ≠ 0) : rdiv n d = near (if d < 0 then -n else n) (mag d) := by
  unfold rdiv
  rw [near_mag]
  by_cases hd : d < 0
  · rw [if_pos hd]
    have m : mag (-n) = mag n := by unfold mag; split <;> split <;> omega
    rw [m]
    rcases Int.lt_trichotomy n 0 with h' | h' | h'
    · have e : ¬ 0 < n := by omega
      simp [hd, h', e]
    · subst h'
      have : 0 < mag d := by unfold mag; split <;> omega
      have z : near0 (mag 0) (mag d) = 0 := by
        have := near0_mul 0 (mag d) this
        simpa [mag] using this
      rw [z]; cases (decide ((0 : Int) < 0) != decide (d < 0)) <;> simp [sg]
    · have e2 : ¬ n < 0 := by omega
      simp [hd, h', e2]
  · rw [if_neg hd]
    simp [hd]
theorem near_gcd {n d n' d' g : Int} (hg : 0 < g) (h1 : n = n' * g) (h2 : d = d' * g) : near n d = near n' d' := by
  subst h1 h2
  rw [near_mag, near_mag, (mag_mul n' g hg).1, (mag_mul n' g hg).2, near0_scale _ _ _ hg]
/-- What the law FxLaws asks of a quotient. -/
theorem dv_near (a b f : Int) (h : b ≠ 0) (hk : de a b f = 0) : mag (dv a b f * b - a * p2 f) * 2 ≤ mag b := by
  rw [de_ok h] at hk
  rw [dv_ok h]
  have g : gd (rdiv (a * p2 f) b) = true := by
    cases g : gd (rdiv (a * p2 f) b)
    · rw [we_no g] at hk; omega
    · rfl
  rw [wv_of g, rdiv_near _ _ h]
  have m0 : 0 < mag b := by unfold mag; split <;> omega
  obtain ⟨h1, h2, -⟩ := near_is (if b < 0 then -(a * p2 f) else a * p2 f) m0
  generalize a * p2 f = k at h1 h2 ⊢
  clear hk g h
  by_cases hb : b < 0
  · rw [if_pos hb] at h1 h2 ⊢
    have e : mag b = -b := by rw [mag, if_pos hb]
    rw [e] at h1 h2 ⊢
    rw [Int.mul_neg] at h1 h2
    generalize near (-k) (-b) * b = t at *
    unfold mag; split <;> omega
  · rw [if_neg hb] at h1 h2 ⊢
    have e : mag b = b := by rw [mag, if_neg hb]
    rw [e] at h1 h2 ⊢
    generalize near k b * b = t at *
    unfold mag; split <;> omega
theorem dv_one (a f : Int) (ha : gd a = true) : dv a (p2 f) f = a ∧ de a (p2 f) f = 0 := by
  have h : p2 f ≠ 0 := by have := p2_pos f; omega
  have e : rdiv (a * p2 f) (p2 f) = a := by
    have p := p2_pos f
    rw [rdiv_near _ _ h, if_neg (by omega)]
    have m : mag (p2 f) = p2 f := by rw [mag, if_neg (by omega)]
    rw [m]; exact near_mul a _ p
  rw [dv_ok h, de_ok h, e]
  exact ⟨wv_of ha, we_of ha⟩
theorem dv_self (a f : Int) (h : a ≠ 0) (hg : gd (p2 f) = true) : dv a a f = p2 f ∧ de a a f = 0 := by
  have e : rdiv (a * p2 f) a = p2 f := by
    have m0 : 0 < mag a := by unfold mag; split <;> omega
    rw [rdiv_near _ _ h]
    by_cases ha : a < 0
    · rw [if_pos ha]
      have m : mag a = -a := by rw [mag, if_pos ha]
      rw [m, Int.mul_comm a, ← Int.mul_neg]
      exact near_mul _ _ (by omega)
    · rw [if_neg ha]
      have m : mag a = a := by rw [mag, if_neg ha]
      rw [m, Int.mul_comm a]
      exact near_mul _ _ (by omega)
  rw [dv_ok h, de_ok h, e]
  exact ⟨wv_of hg, we_of hg⟩
/-- What the law FxOrder asks of quotients. -/
theorem rdiv_le {a b c : Int} (f : Int) (hc : 0 < c) (h : a ≤ b) : rdiv (a * p2 f) c ≤ rdiv (b * p2 f) c := by
  have m : mag c = c := by rw [mag, if_neg (by omega)]
  rw [rdiv_near _ _ (by omega), rdiv_near _ _ (by omega), if_neg (by omega), if_neg (by omega), m]
  exact near_le hc (Int.mul_le_mul_of_nonneg_right h (Int.le_of_lt (p2_pos f)))
end Go.Proofs.Ytmbgaonnknaclaa
