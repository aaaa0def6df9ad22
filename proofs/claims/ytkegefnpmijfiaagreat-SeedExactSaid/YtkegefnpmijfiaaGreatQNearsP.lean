/- fx: Div, Ratio, Shifted, Close; what they tell. What is to the nearest: its bounds, it is the only one, it rises. Powers of 2. -/
import Derived.Test.YtkegefnpmijfiaaGreatQRound
import Derived.Test.YtkegefnpmijfiaaGreatQShift
import Derived.Test.YtkegefnpmijfiaaGreatQReckon
import Derived.Deep.DeepCutAuto
namespace Go.Proofs.YtkegefnpmijfiaaGreat
open Go.RowKit
theorem mul_p2_bd (a f : Int) (h1 : -9223372036854775808 ≤ a) (h2 : a < 9223372036854775808) (f1 : 0 ≤ f) (f2 : f ≤ 32) : mag a * 2 ^ f.toNat ≤ 39614081257132168796771975168 ∧ mag (a * p2 f) = mag a * p2 f := by
  have m0 : 0 ≤ mag a := by unfold mag; split <;> omega
  have m1 : mag a ≤ 9223372036854775808 := by unfold mag; split <;> omega
  have p := p2_pos f
  have hp : p2 f ≤ 4294967296 := by
    unfold p2
    have e : (2 : Int) ^ 32 = 2 ^ f.toNat * 2 ^ (32 - f.toNat) := by rw [← Int.pow_add]; congr 1; omega
    have q := pow_pos' (32 - f.toNat)
    have := Int.mul_le_mul_of_nonneg_left (show (1 : Int) ≤ 2 ^ (32 - f.toNat) by omega) (Int.le_of_lt (pow_pos' f.toNat))
    rw [Int.mul_one, ← e] at this
    exact this
  constructor
  · have h3 := Int.mul_le_mul_of_nonneg_right m1 (Int.le_of_lt p)
    unfold p2 at h3 hp
    omega
  · unfold mag
    rcases Int.lt_or_le a 0 with h | h
    · rw [if_pos h, if_pos (Int.mul_neg_of_neg_of_pos h p), Int.neg_mul]
    · have q := Int.mul_nonneg h (Int.le_of_lt p)
      rw [if_neg (by omega), if_neg (by omega)]
theorem left_p2 (a f : Int) (w : World) (h1 : -9223372036854775808 ≤ a) (h2 : a < 9223372036854775808) (f1 : 0 ≤ f) (f2 : f ≤ 32) :
    Calls Tryz.prog 245 #[.agg #[.int .i64 (hi a), .int .u64 (lo a)], .int .i64 f] w fun e w' => e = .returned (.tuple #[.agg #[.int .i64 (hi (a * p2 f)), .int .u64 (lo (a * p2 f))], .int .i64 0]) ∧ Ext w w' :=
  left_ok a f w ⟨by omega, by omega⟩ f1 (by omega) (by have := (mul_p2_bd a f h1 h2 f1 f2).1; omega)
theorem round_p2 (a d f : Int) (w : World) (h1 : -9223372036854775808 ≤ a) (h2 : a < 9223372036854775808) (f1 : 0 ≤ f) (f2 : f ≤ 32) (d1 : -9223372036854775808 ≤ d) (d2 : d < 9223372036854775808) (d0 : d ≠ 0) :
    Calls Tryz.prog 246 #[.agg #[.int .i64 (hi (a * p2 f)), .int .u64 (lo (a * p2 f))], .agg #[.int .i64 (hi d), .int .u64 (lo d)]] w
      fun e w' => e = .returned (.tuple #[.agg #[.int .i64 (hi (rdiv (a * p2 f) d)), .int .u64 (lo (rdiv (a * p2 f) d))], .int .i64 0]) ∧ Ext w w' := by
  have h := mul_p2_bd a f h1 h2 f1 f2
  exact round_any (a * p2 f) d w (by rw [h.2]; unfold p2; omega) d1 d2 d0
end Go.Proofs.YtkegefnpmijfiaaGreat
namespace Go.Proofs.YtkegefnpmijfiaaGreat
open Go.RowKit
/-- What a quotient is: its word, its error. -/
def dv (a b f : Int) : Int := if b = 0 then 0 else wv (rdiv (a * p2 f) b)
def de (a b f : Int) : Int := if b = 0 then 4 else we (rdiv (a * p2 f) b)
theorem dv_ok {a b f : Int} (h : b ≠ 0) : dv a b f = wv (rdiv (a * p2 f) b) := if_neg h
theorem de_ok {a b f : Int} (h : b ≠ 0) : de a b f = we (rdiv (a * p2 f) b) := if_neg h
theorem Ratio_0 (a f : Int) (w : World) (hf : gdF f = true) :
    Calls Tryz.prog 193 #[.int .i64 a, .int .i64 0, .int .i64 f] w fun e w' => e = .returned (.tuple #[.int .i64 0, .int .i64 4]) ∧ Ext w w' := by
  go_enter Tryz.func193, Tryz.ntmps193
  go_wp2_with fail; refine (goodF_any _ _).mono ?_; rintro e w' ⟨rfl, rfl⟩
  go_wp2
  go_ret2
  exact ⟨rfl, Ext.q⟩
theorem Ratio_bad (a d f : Int) (w : World) (hf : gdF f = false) :
    Calls Tryz.prog 193 #[.int .i64 a, .int .i64 d, .int .i64 f] w fun e w' => e = .returned (.tuple #[.int .i64 0, .int .i64 1]) ∧ Ext w w' := by
  go_enter Tryz.func193, Tryz.ntmps193
  go_wp2_with fail; refine (goodF_any _ _).mono ?_; rintro e w' ⟨rfl, rfl⟩
  go_wp2
  go_ret2
  exact ⟨rfl, Ext.q⟩
set_option maxHeartbeats 2000000 in
theorem Ratio_some (a b f : Int) (w : World) (a1 : -9223372036854775808 ≤ a) (a2 : a < 9223372036854775808) (b1 : -9223372036854775808 ≤ b) (b2 : b < 9223372036854775808) (hb0 : b ≠ 0) (hf : gdF f = true) :
    Calls Tryz.prog 193 #[.int .i64 a, .int .i64 b, .int .i64 f] w fun e w' => e = .returned (.tuple #[.int .i64 (wv (rdiv (a * p2 f) b)), .int .i64 (we (rdiv (a * p2 f) b))]) ∧ Ext w w' := by
  obtain ⟨f1, f2⟩ := gdF_iff.1 hf
  have FA := Lib.hid (fun v => From_any a v (by omega) (by omega))
  have FB := Lib.hid (fun v => From_any b v (by omega) (by omega))
  have L := Lib.hid (fun v => left_p2 a f v (by omega) (by omega) (by omega) f2)
  have N := Lib.hid (fun v => narrow_any (rdiv (a * p2 f) b) v)
  have R := Lib.hid (fun v => round_p2 a b f v (by omega) (by omega) (by omega) f2 (by omega) (by omega) hb0)
  have z : (b == 0) = false := by rw [beq_eq_false_iff_ne]; exact hb0
  clear hb0
  go_enter Tryz.func193, Tryz.ntmps193
  go_wp2_with fail; refine (goodF_any _ _).mono ?_; rintro e w' ⟨rfl, rfl⟩
  go_wp2_with fail; refine (FA.out _).mono ?_; rintro e v1 ⟨rfl, x1⟩; obtain ⟨c1, f1⟩ := x1.rules; have z1 := x1.size
  go_wp2_with fail; refine (L.out _).mono ?_; rintro e v2 ⟨rfl, x2⟩; obtain ⟨c2, f2⟩ := x2.rules; have z2 := x2.size
  go_wp2_with fail
  go_region_held3 (fun w' => w'.cell? ⟨v2.heap.size, 0, none⟩ = some (.int .i64 (hi (a * p2 f))) ∧ w'.cell? ⟨v2.heap.size, 1, none⟩ = some (.int .u64 (lo (a * p2 f))) ∧ w.heap.size ≤ v2.heap.size ∧ v2.heap.size < w'.heap.size ∧ Ext w w')
    (refine ⟨?_, ?_, ?_, ?_, ?_⟩ <;> first | (simp [go_sem, *]; done) | omega | (simp at z1; omega) | (simp at z2; omega) | (simp at z3; omega) | (simp at z4; omega) | exact Ext.q)
    (first
      | (go_at_call 101; refine (FB.out _).mono ?_; rintro e v3 ⟨rfl, x3⟩; obtain ⟨c3, f3⟩ := x3.rules; have z3 := x3.size; have lq := fun o => c3 (v2.heap.size + 1) o (by first | (simp; done) | (simp; omega) | omega); have mq := fun o => f3 (v2.heap.size + 1) o (by first | (simp; done) | (simp; omega) | omega); have k3_v2_heap_size___1_0 := lq 0; have q3_v2_heap_size___1_0 := mq 0; have k3_v2_heap_size___1_1 := lq 1; have q3_v2_heap_size___1_1 := mq 1; clear lq mq; have lq := fun o => c3 (v2.heap.size) o (by first | (simp; done) | (simp; omega) | omega); have mq := fun o => f3 (v2.heap.size) o (by first | (simp; done) | (simp; omega) | omega); have k3_v2_heap_size_0 := lq 0; have q3_v2_heap_size_0 := mq 0; have k3_v2_heap_size_1 := lq 1; have q3_v2_heap_size_1 := mq 1; clear lq mq; have z3_v2_heap_size : v2.heap.size < v3.heap.size := (by (try simp at z3); omega); have z3_v2_heap_size___1 : v2.heap.size + 1 < v3.heap.size := (by (try simp at z3); omega); (try simp at z3); clear c3 f3; simp [go_sem, *] at k3_v2_heap_size___1_0 q3_v2_heap_size___1_0 k3_v2_heap_size___1_1 q3_v2_heap_size___1_1 k3_v2_heap_size_0 q3_v2_heap_size_0 k3_v2_heap_size_1 q3_v2_heap_size_1)
      | (go_at_call 101; refine (FB.out _).mono ?_; rintro e v3 ⟨rfl, x3⟩; obtain ⟨c3, f3⟩ := x3.rules; have z3 := x3.size; have lq := fun o => c3 (v2.heap.size) o (by first | (simp; done) | (simp; omega) | omega); have mq := fun o => f3 (v2.heap.size) o (by first | (simp; done) | (simp; omega) | omega); have k3_v2_heap_size_0 := lq 0; have q3_v2_heap_size_0 := mq 0; have k3_v2_heap_size_1 := lq 1; have q3_v2_heap_size_1 := mq 1; clear lq mq; have z3_v2_heap_size : v2.heap.size < v3.heap.size := (by (try simp at z3); omega); (try simp at z3); clear c3 f3; simp [go_sem, *] at k3_v2_heap_size_0 q3_v2_heap_size_0 k3_v2_heap_size_1 q3_v2_heap_size_1)
      | (go_at_call 246; refine (R.out _).mono ?_; rintro e v4 ⟨rfl, x4⟩; obtain ⟨c4, f4⟩ := x4.rules; have z4 := x4.size; have lq := fun o => c4 (v3.heap.size) o (by first | (simp; done) | (simp; omega) | omega); have mq := fun o => f4 (v3.heap.size) o (by first | (simp; done) | (simp; omega) | omega); have k4_v3_heap_size_0 := lq 0; have q4_v3_heap_size_0 := mq 0; have k4_v3_heap_size_1 := lq 1; have q4_v3_heap_size_1 := mq 1; clear lq mq; have lq := fun o => c4 (v2.heap.size) o (by first | (simp; done) | (simp; omega) | omega); have mq := fun o => f4 (v2.heap.size) o (by first | (simp; done) | (simp; omega) | omega); have k4_v2_heap_size_0 := lq 0; have q4_v2_heap_size_0 := mq 0; have k4_v2_heap_size_1 := lq 1; have q4_v2_heap_size_1 := mq 1; clear lq mq; have z4_v3_heap_size : v3.heap.size < v4.heap.size := (by (try simp at z4); omega); have z4_v2_heap_size : v2.heap.size < v4.heap.size := (by (try simp at z4); omega); (try simp at z4); clear c4 f4; simp [go_sem, *] at k4_v3_heap_size_0 q4_v3_heap_size_0 k4_v3_heap_size_1 q4_v3_heap_size_1 k4_v2_heap_size_0 q4_v2_heap_size_0 k4_v2_heap_size_1 q4_v2_heap_size_1)
      | (go_at_call 246; refine (R.out _).mono ?_; rintro e v4 ⟨rfl, x4⟩; obtain ⟨c4, f4⟩ := x4.rules; have z4 := x4.size; have lq := fun o => c4 (v2.heap.size + 1) o (by first | (simp; done) | (simp; omega) | omega); have mq := fun o => f4 (v2.heap.size + 1) o (by first | (simp; done) | (simp; omega) | omega); have k4_v2_heap_size___1_0 := lq 0; have q4_v2_heap_size___1_0 := mq 0; have k4_v2_heap_size___1_1 := lq 1; have q4_v2_heap_size___1_1 := mq 1; clear lq mq; have lq := fun o => c4 (v2.heap.size) o (by first | (simp; done) | (simp; omega) | omega); have mq := fun o => f4 (v2.heap.size) o (by first | (simp; done) | (simp; omega) | omega); have k4_v2_heap_size_0 := lq 0; have q4_v2_heap_size_0 := mq 0; have k4_v2_heap_size_1 := lq 1; have q4_v2_heap_size_1 := mq 1; clear lq mq; have z4_v2_heap_size : v2.heap.size < v4.heap.size := (by (try simp at z4); omega); have z4_v2_heap_size___1 : v2.heap.size + 1 < v4.heap.size := (by (try simp at z4); omega); (try simp at z4); clear c4 f4; simp [go_sem, *] at k4_v2_heap_size___1_0 q4_v2_heap_size___1_0 k4_v2_heap_size___1_1 q4_v2_heap_size___1_1 k4_v2_heap_size_0 q4_v2_heap_size_0 k4_v2_heap_size_1 q4_v2_heap_size_1)
      | (go_at_call 246; refine (R.out _).mono ?_; rintro e v4 ⟨rfl, x4⟩; obtain ⟨c4, f4⟩ := x4.rules; have z4 := x4.size; have lq := fun o => c4 (v2.heap.size) o (by first | (simp; done) | (simp; omega) | omega); have mq := fun o => f4 (v2.heap.size) o (by first | (simp; done) | (simp; omega) | omega); have k4_v2_heap_size_0 := lq 0; have q4_v2_heap_size_0 := mq 0; have k4_v2_heap_size_1 := lq 1; have q4_v2_heap_size_1 := mq 1; clear lq mq; have z4_v2_heap_size : v2.heap.size < v4.heap.size := (by (try simp at z4); omega); (try simp at z4); clear c4 f4; simp [go_sem, *] at k4_v2_heap_size_0 q4_v2_heap_size_0 k4_v2_heap_size_1 q4_v2_heap_size_1))
  all_goals (go_wp2_with fail; refine (N.out _).mono ?_; rintro e v5 ⟨rfl, x5⟩; obtain ⟨c5, f5⟩ := x5.rules; have z5 := x5.size; go_wp2; go_ret2; exact ⟨rfl, Ext.q⟩)
theorem Ratio_any (a b f : Int) (w : World) (a1 : -9223372036854775808 ≤ a) (a2 : a < 9223372036854775808) (b1 : -9223372036854775808 ≤ b) (b2 : b < 9223372036854775808) (hf : gdF f = true) :
    Calls Tryz.prog 193 #[.int .i64 a, .int .i64 b, .int .i64 f] w fun e w' => e = .returned (.tuple #[.int .i64 (dv a b f), .int .i64 (de a b f)]) ∧ Ext w w' := by
  by_cases h : b = 0
  · subst h; exact Ratio_0 a f w hf
  · rw [dv_ok h, de_ok h]; exact Ratio_some a b f w a1 a2 b1 b2 h hf
theorem near0_mul (a d : Int) (hd : 0 < d) : near0 (a * d) d = a := by
  have e1 : a * d % d = 0 := Int.mul_emod_left a d
  have e2 : a * d / d = a := Int.mul_ediv_cancel a (by omega)
  unfold near0
  rw [e1, e2, if_neg (by omega)]
theorem near0_scale (m e k : Int) (hk : 0 < k) : near0 (m * k) (e * k) = near0 m e := by
  have e1 : m * k % (e * k) = m % e * k := by rw [Int.mul_comm m, Int.mul_comm e, Int.mul_emod_mul_of_pos _ _ hk, Int.mul_comm]
  have e2 : m * k / (e * k) = m / e := Int.mul_ediv_mul_of_pos_left m e hk
  unfold near0
  rw [e1, e2, ← Int.sub_mul]
  have i1 : (e - m % e) * k < m % e * k ↔ e - m % e < m % e := Int.mul_lt_mul_right hk
  have i2 : (e - m % e) * k = m % e * k ↔ e - m % e = m % e := Int.mul_eq_mul_right_iff (by omega)
  simp only [i1, i2]
theorem mag_mul (a k : Int) (hk : 0 < k) : mag (a * k) = mag a * k ∧ decide (a * k < 0) = decide (a < 0) := by
  unfold mag
  rcases Int.lt_or_le a 0 with h | h
  · have := Int.mul_neg_of_neg_of_pos h hk
    rw [if_pos h, if_pos this, Int.neg_mul]
    simp [h, this]
  · have := Int.mul_nonneg h (Int.le_of_lt hk)
    rw [if_neg (by omega), if_neg (by omega)]
    exact ⟨rfl, by simp; omega⟩
end Go.Proofs.YtkegefnpmijfiaaGreat
namespace Go.Proofs.YtkegefnpmijfiaaGreat
/-- x is n / d to the nearest, of two that are as near the even one. -/
def IsNear (x n d : Int) : Prop := 2 * (x * d - n) ≤ d ∧ -d ≤ 2 * (x * d - n) ∧ (2 * (x * d - n) = d ∨ 2 * (x * d - n) = -d → x % 2 = 0)
theorem near0_is {m d : Int} (hd : 0 < d) : IsNear (near0 m d) m d := by
  have e := Int.ediv_mul_add_emod m d
  have r0 := Int.emod_nonneg m (show d ≠ 0 by omega)
  have r1 := Int.emod_lt_of_pos m hd
  unfold near0 IsNear
  split
  · rename_i h
    rw [Int.add_mul, Int.one_mul]
    generalize m / d * d = k at *
    refine ⟨by omega, by omega, fun t => ?_⟩
    omega
  · rename_i h
    generalize m / d * d = k at *
    refine ⟨by omega, by omega, fun t => ?_⟩
    omega
theorem near_is (n : Int) {d : Int} (hd : 0 < d) : IsNear (near n d) n d := by
  unfold near
  split
  · obtain ⟨h1, h2, h3⟩ := near0_is (m := -n) hd
    unfold IsNear
    rw [Int.neg_mul]
    generalize near0 (-n) d = y at *
    generalize y * d = k at *
    exact ⟨by omega, by omega, fun t => by have := h3 (by omega); omega⟩
  · exact near0_is hd
theorem IsNear.le {x y n m d : Int} (hd : 0 < d) (hx : IsNear x n d) (hy : IsNear y m d) (h : n ≤ m) : x ≤ y := by
  obtain ⟨a1, a2, a3⟩ := hx
  obtain ⟨b1, b2, b3⟩ := hy
  rcases Int.lt_or_le y x with h1 | h1
  · exfalso
    have e : x * d = (x - y - 1) * d + d + y * d := by rw [Int.sub_mul, Int.sub_mul]; omega
    have p : 0 ≤ (x - y - 1) * d := Int.mul_nonneg (by omega) (by omega)
    have q0 : (x - y - 1) * d = 0 := by omega
    have q1 : x - y - 1 = 0 := by
      rcases Int.mul_eq_zero.1 q0 with h | h <;> omega
    have t1 := a3 (by omega)
    have t2 := b3 (by omega)
    omega
  · exact h1
theorem IsNear.eq {x y n d : Int} (hd : 0 < d) (hx : IsNear x n d) (hy : IsNear y n d) : x = y :=
  Int.le_antisymm (hx.le hd hy (Int.le_refl _)) (hy.le hd hx (Int.le_refl _))
theorem rdiv_near (n d : Int) (_h : d ≠ 0) : rdiv n d = near (if d < 0 then -n else n) (mag d) := by
  unfold rdiv
  rw [near_mag]
  by_cases hd : d < 0
  · rw [if_pos hd]
    have m : mag (-n) = mag n := by unfold mag; split <;> split <;> omega
    rw [m]
    rcases Int.lt_trichotomy n 0 with h' | h' | h'
    · have e : ¬ 0 < n := by omega
      simp [hd, h', e]
    · subst h'
      have : 0 < mag d := by unfold mag; split <;> omega
      have z : near0 (mag 0) (mag d) = 0 := by
        have := near0_mul 0 (mag d) this
        simpa [mag] using this
      rw [z]; cases (decide ((0 : Int) < 0) != decide (d < 0)) <;> simp [sg]
    · have e2 : ¬ n < 0 := by omega
      simp [hd, h', e2]
  · rw [if_neg hd]
    simp [hd]
theorem near_gcd {n d n' d' g : Int} (hg : 0 < g) (h1 : n = n' * g) (h2 : d = d' * g) : near n d = near n' d' := by
  subst h1 h2
  rw [near_mag, near_mag, (mag_mul n' g hg).1, (mag_mul n' g hg).2, near0_scale _ _ _ hg]
end Go.Proofs.YtkegefnpmijfiaaGreat
namespace Go.Proofs.YtkegefnpmijfiaaGreat
open Go.RowKit
theorem pow_mono' {B : Int} (hB : 1 ≤ B) {m n : Nat} (h : m ≤ n) : B ^ m ≤ B ^ n := by
  obtain ⟨k, rfl⟩ := Nat.exists_eq_add_of_le h
  rw [Int.pow_add]
  have h1 : (0 : Int) < B ^ m := Int.pow_pos (by omega)
  have h2 : (0 : Int) < B ^ k := Int.pow_pos (by omega)
  have := Int.mul_le_mul_of_nonneg_left (show (1 : Int) ≤ B ^ k by omega) (Int.le_of_lt h1)
  omega
theorem p2_gdF {f : Int} (h : gdF f = true) : 1 ≤ p2 f ∧ p2 f ≤ 4294967296 := by
  obtain ⟨f1, f2⟩ := gdF_iff.1 h
  have a := p2_pos f
  refine ⟨by omega, ?_⟩
  unfold p2
  exact Int.le_trans (pow_mono' (show (1 : Int) ≤ 2 by omega) (show f.toNat ≤ 32 by omega)) (by decide)
end Go.Proofs.YtkegefnpmijfiaaGreat
