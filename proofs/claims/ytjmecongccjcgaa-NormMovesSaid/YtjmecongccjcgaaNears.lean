/-  fx: Div, Ratio, Shifted, Close; what they tell. What is to the nearest: its bounds, it is the only one, it rises. -/
import Derived.Test.YtjmecongccjcgaaRound
import Derived.Test.YtjmecongccjcgaaShift2
import Derived.Test.YtjmecongccjcgaaReckon
import Derived.Deep.DeepCutAuto
namespace Go.Proofs.Ytjmecongccjcgaa
open Go.RowKit
theorem mul_p2_bd (a f : Int) (h1 : -9223372036854775808 ≤ a) (h2 : a < 9223372036854775808) (f1 : 0 ≤ f) (f2 : f ≤ 32) : mag a * 2 ^ f.toNat ≤ 39614081257132168796771975168 ∧ mag (a * p2 f) = mag a * p2 f := by
  have m0 : 0 ≤ mag a := by unfold mag; split <;> omega
  have m1 : mag a ≤ 9223372036854775808 := by unfold mag; split <;> omega
  have p := p2_pos f
  have hp : p2 f ≤ 4294967296 := by
    unfold p2
    have e : (2 : Int) ^ 32 = 2 ^ f.toNat * 2 ^ (32 - f.toNat) := by rw [← Int.pow_add]; congr 1; omega
    have q := pow_pos' (32 - f.toNat)
    have := Int.mul_le_mul_of_nonneg_left (show (1 : Int) ≤ 2 ^ (32 - f.toNat) by omega) (Int.le_of_lt (pow_pos' f.toNat))
    rw [Int.mul_one, ← e] at this
    exact this
  constructor
  · have h3 := Int.mul_le_mul_of_nonneg_right m1 (Int.le_of_lt p)
    unfold p2 at h3 hp
    omega
  · unfold mag
    rcases Int.lt_or_le a 0 with h | h
    · rw [if_pos h, if_pos (Int.mul_neg_of_neg_of_pos h p), Int.neg_mul]
    · have q := Int.mul_nonneg h (Int.le_of_lt p)
      rw [if_neg (by omega), if_neg (by omega)]
theorem left_p2 (a f : Int) (w : World) (h1 : -9223372036854775808 ≤ a) (h2 : a < 9223372036854775808) (f1 : 0 ≤ f) (f2 : f ≤ 32) :
    Calls Try.prog 140 #[.agg #[.int .i64 (hi a), .int .u64 (lo a)], .int .i64 f] w fun e w' => e = .returned (.tuple #[.agg #[.int .i64 (hi (a * p2 f)), .int .u64 (lo (a * p2 f))], .int .i64 0]) ∧ Ext w w' :=
  left_ok a f w ⟨by omega, by omega⟩ f1 (by omega) (by have := (mul_p2_bd a f h1 h2 f1 f2).1; omega)
theorem round_p2 (a d f : Int) (w : World) (h1 : -9223372036854775808 ≤ a) (h2 : a < 9223372036854775808) (f1 : 0 ≤ f) (f2 : f ≤ 32) (d1 : -9223372036854775808 ≤ d) (d2 : d < 9223372036854775808) (d0 : d ≠ 0) :
    Calls Try.prog 142 #[.agg #[.int .i64 (hi (a * p2 f)), .int .u64 (lo (a * p2 f))], .agg #[.int .i64 (hi d), .int .u64 (lo d)]] w
      fun e w' => e = .returned (.tuple #[.agg #[.int .i64 (hi (rdiv (a * p2 f) d)), .int .u64 (lo (rdiv (a * p2 f) d))], .int .i64 0]) ∧ Ext w w' := by
  have h := mul_p2_bd a f h1 h2 f1 f2
  exact round_any (a * p2 f) d w (by rw [h.2]; unfold p2; omega) d1 d2 d0
set_option maxHeartbeats 2000000 in
theorem over_any (a b f : Int) (w : World) (ha : Wd a) (hb : Wd b) (hb0 : b ≠ 0) (f1 : 0 ≤ f) (f2 : f ≤ 32) :
    Calls Try.prog 134 #[.agg #[.int .i64 a, .int .i64 b, .int .i64 f]] w fun e w' => e = .returned (.tuple #[.int .i64 (wv (rdiv (a * p2 f) b)), .int .i64 (we (rdiv (a * p2 f) b))]) ∧ Ext w w' := by
  obtain ⟨a1, a2⟩ := ha
  obtain ⟨b1, b2⟩ := hb
  have FA := Lib.hid (fun v => From_any a v (by omega) (by omega))
  have FB := Lib.hid (fun v => From_any b v (by omega) (by omega))
  have L := Lib.hid (fun v => left_p2 a f v (by omega) (by omega) f1 f2)
  have N := Lib.hid (fun v => narrow_any (rdiv (a * p2 f) b) v)
  have R := Lib.hid (fun v => round_p2 a b f v (by omega) (by omega) f1 f2 (by omega) (by omega) hb0)
  have z : (b == 0) = false := by rw [beq_eq_false_iff_ne]; exact hb0
  clear hb0
  go_enter Try.func134, Try.ntmps134
  go_wp2_with fail
  go_cut [4] (fun s4 wx => ∃ g : Nat, s4 = .pointer (some ⟨g, 0, none⟩) ∧ wx.cell? ⟨g, 0, none⟩ = some (.int .i64 (hi (a * p2 f))) ∧ wx.cell? ⟨g, 1, none⟩ = some (.int .u64 (lo (a * p2 f))) ∧ wx.cell? ⟨w.heap.size, 0, none⟩ = some (.int .i64 a) ∧ wx.cell? ⟨w.heap.size, 1, none⟩ = some (.int .i64 b) ∧ wx.cell? ⟨w.heap.size, 2, none⟩ = some (.int .i64 f) ∧ g < wx.heap.size ∧ w.heap.size < wx.heap.size ∧ Ext w wx)
  case first =>
    go_region_held3 (fun w' => w'.cell? ⟨w.heap.size, 0, none⟩ = some (.int .i64 a) ∧ w'.cell? ⟨w.heap.size, 1, none⟩ = some (.int .i64 b) ∧ w'.cell? ⟨w.heap.size, 2, none⟩ = some (.int .i64 f) ∧ w.heap.size < w'.heap.size ∧ Ext w w')
      (refine ⟨?_, ?_, ?_, ?_, ?_⟩ <;> first | (simp [go_sem, *]; done) | omega | (simp at z1; omega) | (simp at z2; omega) | (simp at z3; omega) | (simp at z4; omega) | exact (by repeat (first | with_reducible exact Ext.refl _ | with_reducible apply Ext.drew | with_reducible apply Ext.drewN | with_reducible apply Ext.alloc | ((with_reducible refine Ext.setCell ?_ ?_ _); rotate_left; focus (first | (simp; done) | (simp; omega) | omega)) | with_reducible refine Ext.tr ?_ x1 | with_reducible refine Ext.tr ?_ x2 | with_reducible refine Ext.tr ?_ x3 | with_reducible refine Ext.tr ?_ hx | with_reducible refine Ext.tr ?_ hext | with_reducible assumption)))
      (first
        | (go_at_call 141; refine (FA.out _).mono ?_; rintro e v1 ⟨rfl, x1⟩; obtain ⟨c1, f1⟩ := x1.rules; have z1 := x1.size; have k1_0_0 := c1 (w.heap.size) 0 (by first | (simp; done) | (simp; omega) | omega); have q1_0_0 := f1 (w.heap.size) 0 (by first | (simp; done) | (simp; omega) | omega); have k1_0_1 := c1 (w.heap.size) 1 (by first | (simp; done) | (simp; omega) | omega); have q1_0_1 := f1 (w.heap.size) 1 (by first | (simp; done) | (simp; omega) | omega); have k1_0_2 := c1 (w.heap.size) 2 (by first | (simp; done) | (simp; omega) | omega); have q1_0_2 := f1 (w.heap.size) 2 (by first | (simp; done) | (simp; omega) | omega); have k1_1_0 := c1 (w.heap.size + 1) 0 (by first | (simp; done) | (simp; omega) | omega); have q1_1_0 := f1 (w.heap.size + 1) 0 (by first | (simp; done) | (simp; omega) | omega); have k1_1_1 := c1 (w.heap.size + 1) 1 (by first | (simp; done) | (simp; omega) | omega); have q1_1_1 := f1 (w.heap.size + 1) 1 (by first | (simp; done) | (simp; omega) | omega); have z1_0 : w.heap.size < v1.heap.size := (by (try simp at z1); omega); have z1_1 : w.heap.size + 1 < v1.heap.size := (by (try simp at z1); omega); (try simp at z1); clear c1 f1; simp [go_sem, *] at k1_0_0 q1_0_0 k1_0_1 q1_0_1 k1_0_2 q1_0_2 k1_1_0 q1_1_0 k1_1_1 q1_1_1)
        | (go_at_call 141; refine (FA.out _).mono ?_; rintro e v1 ⟨rfl, x1⟩; obtain ⟨c1, f1⟩ := x1.rules; have z1 := x1.size; have k1_0_0 := c1 (w.heap.size) 0 (by first | (simp; done) | (simp; omega) | omega); have q1_0_0 := f1 (w.heap.size) 0 (by first | (simp; done) | (simp; omega) | omega); have k1_0_1 := c1 (w.heap.size) 1 (by first | (simp; done) | (simp; omega) | omega); have q1_0_1 := f1 (w.heap.size) 1 (by first | (simp; done) | (simp; omega) | omega); have k1_0_2 := c1 (w.heap.size) 2 (by first | (simp; done) | (simp; omega) | omega); have q1_0_2 := f1 (w.heap.size) 2 (by first | (simp; done) | (simp; omega) | omega); have z1_0 : w.heap.size < v1.heap.size := (by (try simp at z1); omega); (try simp at z1); clear c1 f1; simp [go_sem, *] at k1_0_0 q1_0_0 k1_0_1 q1_0_1 k1_0_2 q1_0_2)
        | (go_at_call 140; refine (L.out _).mono ?_; rintro e v2 ⟨rfl, x2⟩; obtain ⟨c2, f2⟩ := x2.rules; have z2 := x2.size; have k2_0_0 := c2 (w.heap.size) 0 (by first | (simp; done) | (simp; omega) | omega); have q2_0_0 := f2 (w.heap.size) 0 (by first | (simp; done) | (simp; omega) | omega); have k2_0_1 := c2 (w.heap.size) 1 (by first | (simp; done) | (simp; omega) | omega); have q2_0_1 := f2 (w.heap.size) 1 (by first | (simp; done) | (simp; omega) | omega); have k2_0_2 := c2 (w.heap.size) 2 (by first | (simp; done) | (simp; omega) | omega); have q2_0_2 := f2 (w.heap.size) 2 (by first | (simp; done) | (simp; omega) | omega); have k2_v1_heap_size_0 := c2 (v1.heap.size) 0 (by first | (simp; done) | (simp; omega) | omega); have q2_v1_heap_size_0 := f2 (v1.heap.size) 0 (by first | (simp; done) | (simp; omega) | omega); have k2_v1_heap_size_1 := c2 (v1.heap.size) 1 (by first | (simp; done) | (simp; omega) | omega); have q2_v1_heap_size_1 := f2 (v1.heap.size) 1 (by first | (simp; done) | (simp; omega) | omega); have z2_0 : w.heap.size < v2.heap.size := (by (try simp at z2); omega); have z2_v1_heap_size : v1.heap.size < v2.heap.size := (by (try simp at z2); omega); (try simp at z2); clear c2 f2; simp [go_sem, *] at k2_0_0 q2_0_0 k2_0_1 q2_0_1 k2_0_2 q2_0_2 k2_v1_heap_size_0 q2_v1_heap_size_0 k2_v1_heap_size_1 q2_v1_heap_size_1)
        | (go_at_call 140; refine (L.out _).mono ?_; rintro e v2 ⟨rfl, x2⟩; obtain ⟨c2, f2⟩ := x2.rules; have z2 := x2.size; have k2_0_0 := c2 (w.heap.size) 0 (by first | (simp; done) | (simp; omega) | omega); have q2_0_0 := f2 (w.heap.size) 0 (by first | (simp; done) | (simp; omega) | omega); have k2_0_1 := c2 (w.heap.size) 1 (by first | (simp; done) | (simp; omega) | omega); have q2_0_1 := f2 (w.heap.size) 1 (by first | (simp; done) | (simp; omega) | omega); have k2_0_2 := c2 (w.heap.size) 2 (by first | (simp; done) | (simp; omega) | omega); have q2_0_2 := f2 (w.heap.size) 2 (by first | (simp; done) | (simp; omega) | omega); have k2_1_0 := c2 (w.heap.size + 1) 0 (by first | (simp; done) | (simp; omega) | omega); have q2_1_0 := f2 (w.heap.size + 1) 0 (by first | (simp; done) | (simp; omega) | omega); have k2_1_1 := c2 (w.heap.size + 1) 1 (by first | (simp; done) | (simp; omega) | omega); have q2_1_1 := f2 (w.heap.size + 1) 1 (by first | (simp; done) | (simp; omega) | omega); have z2_0 : w.heap.size < v2.heap.size := (by (try simp at z2); omega); have z2_1 : w.heap.size + 1 < v2.heap.size := (by (try simp at z2); omega); (try simp at z2); clear c2 f2; simp [go_sem, *] at k2_0_0 q2_0_0 k2_0_1 q2_0_1 k2_0_2 q2_0_2 k2_1_0 q2_1_0 k2_1_1 q2_1_1)
        | (go_at_call 140; refine (L.out _).mono ?_; rintro e v2 ⟨rfl, x2⟩; obtain ⟨c2, f2⟩ := x2.rules; have z2 := x2.size; have k2_0_0 := c2 (w.heap.size) 0 (by first | (simp; done) | (simp; omega) | omega); have q2_0_0 := f2 (w.heap.size) 0 (by first | (simp; done) | (simp; omega) | omega); have k2_0_1 := c2 (w.heap.size) 1 (by first | (simp; done) | (simp; omega) | omega); have q2_0_1 := f2 (w.heap.size) 1 (by first | (simp; done) | (simp; omega) | omega); have k2_0_2 := c2 (w.heap.size) 2 (by first | (simp; done) | (simp; omega) | omega); have q2_0_2 := f2 (w.heap.size) 2 (by first | (simp; done) | (simp; omega) | omega); have z2_0 : w.heap.size < v2.heap.size := (by (try simp at z2); omega); (try simp at z2); clear c2 f2; simp [go_sem, *] at k2_0_0 q2_0_0 k2_0_1 q2_0_1 k2_0_2 q2_0_2))
    all_goals (go_wp2_with fail; go_meet; exact ⟨_, rfl, by simp [go_sem, *], by simp [go_sem, *], by simp [go_sem, *], by simp [go_sem, *], by simp [go_sem, *], by (first | (simp; done) | (simp; omega) | omega), by (first | (simp; done) | (simp; omega) | omega), (by repeat (first | with_reducible exact Ext.refl _ | with_reducible apply Ext.drew | with_reducible apply Ext.drewN | with_reducible apply Ext.alloc | ((with_reducible refine Ext.setCell ?_ ?_ _); rotate_left; focus (first | (simp; done) | (simp; omega) | omega)) | with_reducible refine Ext.tr ?_ x1 | with_reducible refine Ext.tr ?_ x2 | with_reducible refine Ext.tr ?_ x3 | with_reducible refine Ext.tr ?_ hx | with_reducible refine Ext.tr ?_ hext | with_reducible assumption))⟩)
  case rest =>
    obtain ⟨g, rfl, g0, g1, h0, h1, h2, g3, g4, hext⟩ := hcut
    go_wp2_with fail
    go_region_held3 (fun w' => w'.cell? ⟨g, 0, none⟩ = some (.int .i64 (hi (a * p2 f))) ∧ w'.cell? ⟨g, 1, none⟩ = some (.int .u64 (lo (a * p2 f))) ∧ w'.cell? ⟨w.heap.size, 1, none⟩ = some (.int .i64 b) ∧ g < w'.heap.size ∧ w.heap.size < w'.heap.size ∧ Ext w w')
      (refine ⟨?_, ?_, ?_, ?_, ?_, ?_⟩ <;> first | (simp [go_sem, *]; done) | omega | (simp at z1; omega) | (simp at z2; omega) | (simp at z3; omega) | (simp at z4; omega) | exact (by repeat (first | with_reducible exact Ext.refl _ | with_reducible apply Ext.drew | with_reducible apply Ext.drewN | with_reducible apply Ext.alloc | ((with_reducible refine Ext.setCell ?_ ?_ _); rotate_left; focus (first | (simp; done) | (simp; omega) | omega)) | with_reducible refine Ext.tr ?_ x1 | with_reducible refine Ext.tr ?_ x2 | with_reducible refine Ext.tr ?_ x3 | with_reducible refine Ext.tr ?_ hx | with_reducible refine Ext.tr ?_ hext | with_reducible assumption)))
      (first
        | (go_at_call 141; refine (FB.out _).mono ?_; rintro e v1 ⟨rfl, x1⟩; obtain ⟨c1, f1⟩ := x1.rules; have z1 := x1.size; have k1_wc_heap_size_0 := c1 (wc.heap.size) 0 (by first | (simp; done) | (simp; omega) | omega); have q1_wc_heap_size_0 := f1 (wc.heap.size) 0 (by first | (simp; done) | (simp; omega) | omega); have k1_wc_heap_size_1 := c1 (wc.heap.size) 1 (by first | (simp; done) | (simp; omega) | omega); have q1_wc_heap_size_1 := f1 (wc.heap.size) 1 (by first | (simp; done) | (simp; omega) | omega); have k1_g_0 := c1 (g) 0 (by first | (simp; done) | (simp; omega) | omega); have q1_g_0 := f1 (g) 0 (by first | (simp; done) | (simp; omega) | omega); have k1_g_1 := c1 (g) 1 (by first | (simp; done) | (simp; omega) | omega); have q1_g_1 := f1 (g) 1 (by first | (simp; done) | (simp; omega) | omega); have k1_0_0 := c1 (w.heap.size) 0 (by first | (simp; done) | (simp; omega) | omega); have q1_0_0 := f1 (w.heap.size) 0 (by first | (simp; done) | (simp; omega) | omega); have k1_0_1 := c1 (w.heap.size) 1 (by first | (simp; done) | (simp; omega) | omega); have q1_0_1 := f1 (w.heap.size) 1 (by first | (simp; done) | (simp; omega) | omega); have z1_wc_heap_size : wc.heap.size < v1.heap.size := (by (try simp at z1); omega); have z1_g : g < v1.heap.size := (by (try simp at z1); omega); have z1_0 : w.heap.size < v1.heap.size := (by (try simp at z1); omega); (try simp at z1); clear c1 f1; simp [go_sem, *] at k1_wc_heap_size_0 q1_wc_heap_size_0 k1_wc_heap_size_1 q1_wc_heap_size_1 k1_g_0 q1_g_0 k1_g_1 q1_g_1 k1_0_0 q1_0_0 k1_0_1 q1_0_1)
        | (go_at_call 141; refine (FB.out _).mono ?_; rintro e v1 ⟨rfl, x1⟩; obtain ⟨c1, f1⟩ := x1.rules; have z1 := x1.size; have k1_g_0 := c1 (g) 0 (by first | (simp; done) | (simp; omega) | omega); have q1_g_0 := f1 (g) 0 (by first | (simp; done) | (simp; omega) | omega); have k1_g_1 := c1 (g) 1 (by first | (simp; done) | (simp; omega) | omega); have q1_g_1 := f1 (g) 1 (by first | (simp; done) | (simp; omega) | omega); have k1_0_0 := c1 (w.heap.size) 0 (by first | (simp; done) | (simp; omega) | omega); have q1_0_0 := f1 (w.heap.size) 0 (by first | (simp; done) | (simp; omega) | omega); have k1_0_1 := c1 (w.heap.size) 1 (by first | (simp; done) | (simp; omega) | omega); have q1_0_1 := f1 (w.heap.size) 1 (by first | (simp; done) | (simp; omega) | omega); have z1_g : g < v1.heap.size := (by (try simp at z1); omega); have z1_0 : w.heap.size < v1.heap.size := (by (try simp at z1); omega); (try simp at z1); clear c1 f1; simp [go_sem, *] at k1_g_0 q1_g_0 k1_g_1 q1_g_1 k1_0_0 q1_0_0 k1_0_1 q1_0_1)
        | (go_at_call 142; refine (R.out _).mono ?_; rintro e v2 ⟨rfl, x2⟩; obtain ⟨c2, f2⟩ := x2.rules; have z2 := x2.size; have k2_v1_heap_size_0 := c2 (v1.heap.size) 0 (by first | (simp; done) | (simp; omega) | omega); have q2_v1_heap_size_0 := f2 (v1.heap.size) 0 (by first | (simp; done) | (simp; omega) | omega); have k2_v1_heap_size_1 := c2 (v1.heap.size) 1 (by first | (simp; done) | (simp; omega) | omega); have q2_v1_heap_size_1 := f2 (v1.heap.size) 1 (by first | (simp; done) | (simp; omega) | omega); have k2_g_0 := c2 (g) 0 (by first | (simp; done) | (simp; omega) | omega); have q2_g_0 := f2 (g) 0 (by first | (simp; done) | (simp; omega) | omega); have k2_g_1 := c2 (g) 1 (by first | (simp; done) | (simp; omega) | omega); have q2_g_1 := f2 (g) 1 (by first | (simp; done) | (simp; omega) | omega); have k2_0_0 := c2 (w.heap.size) 0 (by first | (simp; done) | (simp; omega) | omega); have q2_0_0 := f2 (w.heap.size) 0 (by first | (simp; done) | (simp; omega) | omega); have k2_0_1 := c2 (w.heap.size) 1 (by first | (simp; done) | (simp; omega) | omega); have q2_0_1 := f2 (w.heap.size) 1 (by first | (simp; done) | (simp; omega) | omega); have z2_v1_heap_size : v1.heap.size < v2.heap.size := (by (try simp at z2); omega); have z2_g : g < v2.heap.size := (by (try simp at z2); omega); have z2_0 : w.heap.size < v2.heap.size := (by (try simp at z2); omega); (try simp at z2); clear c2 f2; simp [go_sem, *] at k2_v1_heap_size_0 q2_v1_heap_size_0 k2_v1_heap_size_1 q2_v1_heap_size_1 k2_g_0 q2_g_0 k2_g_1 q2_g_1 k2_0_0 q2_0_0 k2_0_1 q2_0_1)
        | (go_at_call 142; refine (R.out _).mono ?_; rintro e v2 ⟨rfl, x2⟩; obtain ⟨c2, f2⟩ := x2.rules; have z2 := x2.size; have k2_wc_heap_size_0 := c2 (wc.heap.size) 0 (by first | (simp; done) | (simp; omega) | omega); have q2_wc_heap_size_0 := f2 (wc.heap.size) 0 (by first | (simp; done) | (simp; omega) | omega); have k2_wc_heap_size_1 := c2 (wc.heap.size) 1 (by first | (simp; done) | (simp; omega) | omega); have q2_wc_heap_size_1 := f2 (wc.heap.size) 1 (by first | (simp; done) | (simp; omega) | omega); have k2_g_0 := c2 (g) 0 (by first | (simp; done) | (simp; omega) | omega); have q2_g_0 := f2 (g) 0 (by first | (simp; done) | (simp; omega) | omega); have k2_g_1 := c2 (g) 1 (by first | (simp; done) | (simp; omega) | omega); have q2_g_1 := f2 (g) 1 (by first | (simp; done) | (simp; omega) | omega); have k2_0_0 := c2 (w.heap.size) 0 (by first | (simp; done) | (simp; omega) | omega); have q2_0_0 := f2 (w.heap.size) 0 (by first | (simp; done) | (simp; omega) | omega); have k2_0_1 := c2 (w.heap.size) 1 (by first | (simp; done) | (simp; omega) | omega); have q2_0_1 := f2 (w.heap.size) 1 (by first | (simp; done) | (simp; omega) | omega); have z2_wc_heap_size : wc.heap.size < v2.heap.size := (by (try simp at z2); omega); have z2_g : g < v2.heap.size := (by (try simp at z2); omega); have z2_0 : w.heap.size < v2.heap.size := (by (try simp at z2); omega); (try simp at z2); clear c2 f2; simp [go_sem, *] at k2_wc_heap_size_0 q2_wc_heap_size_0 k2_wc_heap_size_1 q2_wc_heap_size_1 k2_g_0 q2_g_0 k2_g_1 q2_g_1 k2_0_0 q2_0_0 k2_0_1 q2_0_1)
        | (go_at_call 142; refine (R.out _).mono ?_; rintro e v2 ⟨rfl, x2⟩; obtain ⟨c2, f2⟩ := x2.rules; have z2 := x2.size; have k2_g_0 := c2 (g) 0 (by first | (simp; done) | (simp; omega) | omega); have q2_g_0 := f2 (g) 0 (by first | (simp; done) | (simp; omega) | omega); have k2_g_1 := c2 (g) 1 (by first | (simp; done) | (simp; omega) | omega); have q2_g_1 := f2 (g) 1 (by first | (simp; done) | (simp; omega) | omega); have k2_0_0 := c2 (w.heap.size) 0 (by first | (simp; done) | (simp; omega) | omega); have q2_0_0 := f2 (w.heap.size) 0 (by first | (simp; done) | (simp; omega) | omega); have k2_0_1 := c2 (w.heap.size) 1 (by first | (simp; done) | (simp; omega) | omega); have q2_0_1 := f2 (w.heap.size) 1 (by first | (simp; done) | (simp; omega) | omega); have z2_g : g < v2.heap.size := (by (try simp at z2); omega); have z2_0 : w.heap.size < v2.heap.size := (by (try simp at z2); omega); (try simp at z2); clear c2 f2; simp [go_sem, *] at k2_g_0 q2_g_0 k2_g_1 q2_g_1 k2_0_0 q2_0_0 k2_0_1 q2_0_1))
    all_goals (go_wp2_with fail; refine (N.out _).mono ?_; rintro e v3 ⟨rfl, x3⟩; obtain ⟨c3, f3⟩ := x3.rules; have z3 := x3.size; go_wp2; go_ret2; exact ⟨rfl, (by repeat (first | with_reducible exact Ext.refl _ | with_reducible apply Ext.drew | with_reducible apply Ext.drewN | with_reducible apply Ext.alloc | ((with_reducible refine Ext.setCell ?_ ?_ _); rotate_left; focus (first | (simp; done) | (simp; omega) | omega)) | with_reducible refine Ext.tr ?_ x1 | with_reducible refine Ext.tr ?_ x2 | with_reducible refine Ext.tr ?_ x3 | with_reducible refine Ext.tr ?_ hx | with_reducible refine Ext.tr ?_ hext | with_reducible assumption))⟩)
end Go.Proofs.Ytjmecongccjcgaa
namespace Go.Proofs.Ytjmecongccjcgaa
open Go.RowKit
theorem over_0 (a f : Int) (w : World) :
    Calls Try.prog 134 #[.agg #[.int .i64 a, .int .i64 0, .int .i64 f]] w fun e w' => e = .returned (.tuple #[.int .i64 0, .int .i64 4]) ∧ Ext w w' := by
  go_enter Try.func134, Try.ntmps134
  go_wp2
  go_ret2
  exact ⟨rfl, (by repeat (first | with_reducible exact Ext.refl _ | with_reducible apply Ext.drew | with_reducible apply Ext.drewN | with_reducible apply Ext.alloc | ((with_reducible refine Ext.setCell ?_ ?_ _); rotate_left; focus (first | (simp; done) | (simp; omega) | omega)) | with_reducible refine Ext.tr ?_ x1 | with_reducible refine Ext.tr ?_ x2 | with_reducible refine Ext.tr ?_ x3 | with_reducible refine Ext.tr ?_ hx | with_reducible refine Ext.tr ?_ hext | with_reducible assumption))⟩
/-- What a quotient is: its word, its error. -/
def dv (a b f : Int) : Int := if b = 0 then 0 else wv (rdiv (a * p2 f) b)
def de (a b f : Int) : Int := if b = 0 then 4 else we (rdiv (a * p2 f) b)
theorem dv_ok {a b f : Int} (h : b ≠ 0) : dv a b f = wv (rdiv (a * p2 f) b) := if_neg h
theorem de_ok {a b f : Int} (h : b ≠ 0) : de a b f = we (rdiv (a * p2 f) b) := if_neg h
theorem over_any' (a b f : Int) (w : World) (ha : Wd a) (hb : Wd b) (f1 : 0 ≤ f) (f2 : f ≤ 32) :
    Calls Try.prog 134 #[.agg #[.int .i64 a, .int .i64 b, .int .i64 f]] w fun e w' => e = .returned (.tuple #[.int .i64 (dv a b f), .int .i64 (de a b f)]) ∧ Ext w w' := by
  by_cases h : b = 0
  · subst h; exact over_0 a f w
  · rw [dv_ok h, de_ok h]; exact over_any a b f w ha hb h f1 f2
theorem Div_any (a b f : Int) (w : World) (ha : Wd a) (hb : Wd b) (hf : gdF f = true) :
    Calls Try.prog 96 #[.int .i64 a, .int .i64 b, .int .i64 f] w fun e w' => e = .returned (.tuple #[.int .i64 (dv a b f), .int .i64 (de a b f)]) ∧ Ext w w' := by
  obtain ⟨f1, f2⟩ := gdF_iff.1 hf
  have R := Lib.hid (fun v => reckon_ok 3 a b f 134 _ v ha.g hb.g hf _ _ rfl way_3 (enters_of Try.func134 (by kernel_rfl) rfl) (fun u => over_any' a b f u ha hb (by omega) f2))
  clear hf
  go_enter Try.func96, Try.ntmps96
  go_wp2_with fail; refine (R.out _).mono ?_; rintro e v1 ⟨rfl, x1⟩; obtain ⟨c1, f1⟩ := x1.rules; have z1 := x1.size
  go_wp2
  go_ret2
  exact ⟨rfl, (by repeat (first | with_reducible exact Ext.refl _ | with_reducible apply Ext.drew | with_reducible apply Ext.drewN | with_reducible apply Ext.alloc | ((with_reducible refine Ext.setCell ?_ ?_ _); rotate_left; focus (first | (simp; done) | (simp; omega) | omega)) | with_reducible refine Ext.tr ?_ x1 | with_reducible refine Ext.tr ?_ x2 | with_reducible refine Ext.tr ?_ x3 | with_reducible refine Ext.tr ?_ hx | with_reducible refine Ext.tr ?_ hext | with_reducible assumption))⟩
theorem Shifted_any (x n : Int) (w : World) (hx : W128 x) (hn : 0 ≤ n) (hn2 : n ≤ 126) :
    Calls Try.prog 138 #[.agg #[.int .i64 (hi x), .int .u64 (lo x)], .int .i64 n] w fun e w' => e = .returned (.tuple #[.int .i64 (wv (near x (p2 n))), .int .i64 (we (near x (p2 n)))]) ∧ Ext w w' := by
  have H := Lib.hid hx
  clear hx
  go_enter Try.func138, Try.ntmps138
  go_wp2_with fail; refine (shift_any _ _ _ H.out hn hn2).mono ?_; rintro e v1 ⟨rfl, x1⟩; obtain ⟨c1, f1⟩ := x1.rules; have z1 := x1.size
  go_wp2_with fail; refine (narrow_any _ _).mono ?_; rintro e v2 ⟨rfl, x2⟩; obtain ⟨c2, f2⟩ := x2.rules; have z2 := x2.size
  go_wp2
  go_ret2
  exact ⟨rfl, (by repeat (first | with_reducible exact Ext.refl _ | with_reducible apply Ext.drew | with_reducible apply Ext.drewN | with_reducible apply Ext.alloc | ((with_reducible refine Ext.setCell ?_ ?_ _); rotate_left; focus (first | (simp; done) | (simp; omega) | omega)) | with_reducible refine Ext.tr ?_ x1 | with_reducible refine Ext.tr ?_ x2 | with_reducible refine Ext.tr ?_ x3 | with_reducible refine Ext.tr ?_ hx | with_reducible refine Ext.tr ?_ hext | with_reducible assumption))⟩
theorem near0_mul (a d : Int) (hd : 0 < d) : near0 (a * d) d = a := by
  have e1 : a * d % d = 0 := Int.mul_emod_left a d
  have e2 : a * d / d = a := Int.mul_ediv_cancel a (by omega)
  unfold near0
  rw [e1, e2, if_neg (by omega)]
theorem near_mul (a d : Int) (hd : 0 < d) : near (a * d) d = a := by
  unfold near
  split
  · rw [← Int.neg_mul, near0_mul _ _ hd, Int.neg_neg]
  · exact near0_mul a d hd
theorem near0_scale (m e k : Int) (hk : 0 < k) : near0 (m * k) (e * k) = near0 m e := by
  have e1 : m * k % (e * k) = m % e * k := by rw [Int.mul_comm m, Int.mul_comm e, Int.mul_emod_mul_of_pos _ _ hk, Int.mul_comm]
  have e2 : m * k / (e * k) = m / e := Int.mul_ediv_mul_of_pos_left m e hk
  unfold near0
  rw [e1, e2, ← Int.sub_mul]
  have i1 : (e - m % e) * k < m % e * k ↔ e - m % e < m % e := Int.mul_lt_mul_right hk
  have i2 : (e - m % e) * k = m % e * k ↔ e - m % e = m % e := Int.mul_eq_mul_right_iff (by omega)
  simp only [i1, i2]
theorem mag_mul (a k : Int) (hk : 0 < k) : mag (a * k) = mag a * k ∧ decide (a * k < 0) = decide (a < 0) := by
  unfold mag
  rcases Int.lt_or_le a 0 with h | h
  · have := Int.mul_neg_of_neg_of_pos h hk
    rw [if_pos h, if_pos this, Int.neg_mul]
    simp [h, this]
  · have := Int.mul_nonneg h (Int.le_of_lt hk)
    rw [if_neg (by omega), if_neg (by omega)]
    exact ⟨rfl, by simp; omega⟩
theorem rdiv_scale (n d k : Int) (hk : 0 < k) : rdiv (n * k) (d * k) = rdiv n d := by
  unfold rdiv
  rw [(mag_mul n k hk).1, (mag_mul n k hk).2, (mag_mul d k hk).1, (mag_mul d k hk).2, near0_scale _ _ _ hk]
theorem rdiv_neg (n d : Int) : rdiv (-n) d = -rdiv n d := by
  have m : mag (-n) = mag n := by unfold mag; split <;> split <;> omega
  unfold rdiv
  rw [m]
  rcases Int.lt_trichotomy n 0 with h | h | h
  · have e1 : decide (n < 0) = true := by simp [h]
    have e2 : decide (-n < 0) = false := by simp; omega
    rw [e1, e2]; cases decide (d < 0) <;> simp [sg]
  · subst h
    have e : near0 (mag 0) (mag d) = 0 := by
      unfold near0 mag
      simp
      omega
    rw [e]; simp [sg]
  · have e1 : decide (n < 0) = false := by simp; omega
    have e2 : decide (-n < 0) = true := by simp; omega
    rw [e1, e2]; cases decide (d < 0) <;> simp [sg]
theorem dv_scale (n d k f : Int) (hk : 0 < k) : dv (n * k) (d * k) f = dv n d f ∧ de (n * k) (d * k) f = de n d f := by
  by_cases h : d = 0
  · subst h; simp [dv, de]
  · have h' : d * k ≠ 0 := Int.mul_ne_zero h (by omega)
    rw [dv_ok h, de_ok h, dv_ok h', de_ok h', Int.mul_right_comm, rdiv_scale _ _ _ hk]
    exact ⟨rfl, rfl⟩
theorem dv_neg (n d f : Int) (h : d ≠ 0) : dv (-n) d f = -dv n d f ∧ de (-n) d f = de n d f := by
  rw [dv_ok h, de_ok h, dv_ok h, de_ok h, Int.neg_mul, rdiv_neg, wv_neg, we_neg]
  exact ⟨rfl, rfl⟩
end Go.Proofs.Ytjmecongccjcgaa
namespace Go.Proofs.Ytjmecongccjcgaa
/-- x is n / d to the nearest, of two that are as near the even one. -/
def IsNear (x n d : Int) : Prop := 2 * (x * d - n) ≤ d ∧ -d ≤ 2 * (x * d - n) ∧ (2 * (x * d - n) = d ∨ 2 * (x * d - n) = -d → x % 2 = 0)
theorem near0_is {m d : Int} (hd : 0 < d) : IsNear (near0 m d) m d := by
  have e := Int.ediv_mul_add_emod m d
  have r0 := Int.emod_nonneg m (show d ≠ 0 by omega)
  have r1 := Int.emod_lt_of_pos m hd
  unfold near0 IsNear
  split
  · rename_i h
    rw [Int.add_mul, Int.one_mul]
    generalize m / d * d = k at *
    refine ⟨by omega, by omega, fun t => ?_⟩
    omega
  · rename_i h
    generalize m / d * d = k at *
    refine ⟨by omega, by omega, fun t => ?_⟩
    omega
theorem near_is (n : Int) {d : Int} (hd : 0 < d) : IsNear (near n d) n d := by
  unfold near
  split
  · obtain ⟨h1, h2, h3⟩ := near0_is (m := -n) hd
    unfold IsNear
    rw [Int.neg_mul]
    generalize near0 (-n) d = y at *
    generalize y * d = k at *
    exact ⟨by omega, by omega, fun t => by have := h3 (by omega); omega⟩
  · exact near0_is hd
theorem IsNear.le {x y n m d : Int} (hd : 0 < d) (hx : IsNear x n d) (hy : IsNear y m d) (h : n ≤ m) : x ≤ y := by
  obtain ⟨a1, a2, a3⟩ := hx
  obtain ⟨b1, b2, b3⟩ := hy
  rcases Int.lt_or_le y x with h1 | h1
  · exfalso
    have e : x * d = (x - y - 1) * d + d + y * d := by rw [Int.sub_mul, Int.sub_mul]; omega
    have p : 0 ≤ (x - y - 1) * d := Int.mul_nonneg (by omega) (by omega)
    have q0 : (x - y - 1) * d = 0 := by omega
    have q1 : x - y - 1 = 0 := by
      rcases Int.mul_eq_zero.1 q0 with h | h <;> omega
    have t1 := a3 (by omega)
    have t2 := b3 (by omega)
    omega
  · exact h1
theorem IsNear.eq {x y n d : Int} (hd : 0 < d) (hx : IsNear x n d) (hy : IsNear y n d) : x = y :=
  Int.le_antisymm (hx.le hd hy (Int.le_refl _)) (hy.le hd hx (Int.le_refl _))
theorem near_le {n m d : Int} (hd : 0 < d) (h : n ≤ m) : near n d ≤ near m d := (near_is n hd).le hd (near_is m hd) h
theorem rdiv_near (n d : Int) (_h : d ≠ 0) : rdiv n d = near (if d < 0 then -n else n) (mag d) := by
  unfold rdiv
  rw [near_mag]
  by_cases hd : d < 0
  · rw [if_pos hd]
    have m : mag (-n) = mag n := by unfold mag; split <;> split <;> omega
    rw [m]
    rcases Int.lt_trichotomy n 0 with h' | h' | h'
    · have e : ¬ 0 < n := by omega
      simp [hd, h', e]
    · subst h'
      have : 0 < mag d := by unfold mag; split <;> omega
      have z : near0 (mag 0) (mag d) = 0 := by
        have := near0_mul 0 (mag d) this
        simpa [mag] using this
      rw [z]; cases (decide ((0 : Int) < 0) != decide (d < 0)) <;> simp [sg]
    · have e2 : ¬ n < 0 := by omega
      simp [hd, h', e2]
  · rw [if_neg hd]
    simp [hd]
theorem near_gcd {n d n' d' g : Int} (hg : 0 < g) (h1 : n = n' * g) (h2 : d = d' * g) : near n d = near n' d' := by
  subst h1 h2
  rw [near_mag, near_mag, (mag_mul n' g hg).1, (mag_mul n' g hg).2, near0_scale _ _ _ hg]
/-- What the law FxLaws asks of a quotient. -/
theorem dv_near (a b f : Int) (h : b ≠ 0) (hk : de a b f = 0) : mag (dv a b f * b - a * p2 f) * 2 ≤ mag b := by
  rw [de_ok h] at hk
  rw [dv_ok h]
  have g : gd (rdiv (a * p2 f) b) = true := by
    cases g : gd (rdiv (a * p2 f) b)
    · rw [we_no g] at hk; omega
    · rfl
  rw [wv_of g, rdiv_near _ _ h]
  have m0 : 0 < mag b := by unfold mag; split <;> omega
  obtain ⟨h1, h2, -⟩ := near_is (if b < 0 then -(a * p2 f) else a * p2 f) m0
  generalize a * p2 f = k at h1 h2 ⊢
  clear hk g h
  by_cases hb : b < 0
  · rw [if_pos hb] at h1 h2 ⊢
    have e : mag b = -b := by rw [mag, if_pos hb]
    rw [e] at h1 h2 ⊢
    rw [Int.mul_neg] at h1 h2
    generalize near (-k) (-b) * b = t at *
    unfold mag; split <;> omega
  · rw [if_neg hb] at h1 h2 ⊢
    have e : mag b = b := by rw [mag, if_neg hb]
    rw [e] at h1 h2 ⊢
    generalize near k b * b = t at *
    unfold mag; split <;> omega
theorem dv_one (a f : Int) (ha : gd a = true) : dv a (p2 f) f = a ∧ de a (p2 f) f = 0 := by
  have h : p2 f ≠ 0 := by have := p2_pos f; omega
  have e : rdiv (a * p2 f) (p2 f) = a := by
    have p := p2_pos f
    rw [rdiv_near _ _ h, if_neg (by omega)]
    have m : mag (p2 f) = p2 f := by rw [mag, if_neg (by omega)]
    rw [m]; exact near_mul a _ p
  rw [dv_ok h, de_ok h, e]
  exact ⟨wv_of ha, we_of ha⟩
theorem dv_self (a f : Int) (h : a ≠ 0) (hg : gd (p2 f) = true) : dv a a f = p2 f ∧ de a a f = 0 := by
  have e : rdiv (a * p2 f) a = p2 f := by
    have m0 : 0 < mag a := by unfold mag; split <;> omega
    rw [rdiv_near _ _ h]
    by_cases ha : a < 0
    · rw [if_pos ha]
      have m : mag a = -a := by rw [mag, if_pos ha]
      rw [m, Int.mul_comm a, ← Int.mul_neg]
      exact near_mul _ _ (by omega)
    · rw [if_neg ha]
      have m : mag a = a := by rw [mag, if_neg ha]
      rw [m, Int.mul_comm a]
      exact near_mul _ _ (by omega)
  rw [dv_ok h, de_ok h, e]
  exact ⟨wv_of hg, we_of hg⟩
/-- What the law FxOrder asks of quotients. -/
theorem rdiv_le {a b c : Int} (f : Int) (hc : 0 < c) (h : a ≤ b) : rdiv (a * p2 f) c ≤ rdiv (b * p2 f) c := by
  have m : mag c = c := by rw [mag, if_neg (by omega)]
  rw [rdiv_near _ _ (by omega), rdiv_near _ _ (by omega), if_neg (by omega), if_neg (by omega), m]
  exact near_le hc (Int.mul_le_mul_of_nonneg_right h (Int.le_of_lt (p2_pos f)))
end Go.Proofs.Ytjmecongccjcgaa
