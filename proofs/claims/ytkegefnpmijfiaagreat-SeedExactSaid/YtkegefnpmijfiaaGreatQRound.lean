/- wide.divide, Round. -/
import Derived.Test.YtkegefnpmijfiaaGreatQDiv64
import Derived.Test.YtkegefnpmijfiaaGreatQTimes
namespace Go.Proofs.YtkegefnpmijfiaaGreat
open Go.RowKit
set_option maxHeartbeats 2000000 in
set_option maxRecDepth 100000 in
/-- wide.divide, by what has no upper half. -/
theorem divide_short (N d : Int) (w : World) (hN : U128 N) (hd : 0 < d) (hd2 : d < 18446744073709551616) :
    Calls Tryz.prog 174 #[.agg #[.int .u64 (hi N), .int .u64 (lo N)], .agg #[.int .u64 0, .int .u64 d]] w fun e w' => e = .returned (.tuple #[.agg #[.int .u64 (hi (N / d)), .int .u64 (lo (N / d))], .agg #[.int .u64 0, .int .u64 (N % d)]]) ∧ Ext w w' := by
  obtain ⟨b1, b2⟩ := hN.b
  have l0 := lo_nn N
  have l1 := lo_lt N
  have hl := hi_lo N
  have r0 := Int.emod_nonneg (hi N) (Int.ne_of_gt hd)
  have r1 := Int.emod_lt_of_pos (hi N) hd
  have dm := Int.mul_ediv_add_emod (hi N) d
  have c1 := fun v => div64_short (hi N) d v b1 b2 hd
  have hM1 : hi (hi N % d * 18446744073709551616 + lo N) = hi N % d := hi_eq rfl l0 l1
  have hM2 : lo (hi N % d * 18446744073709551616 + lo N) = lo N := lo_eq rfl l0 l1
  have c2 := fun v => div64_any (hi N % d * 18446744073709551616 + lo N) d v ⟨by omega, by omega⟩ (by rw [hM1]; exact r1) hd2
  have q0 : 0 ≤ (hi N % d * 18446744073709551616 + lo N) / d := Int.ediv_nonneg (by omega) (Int.le_of_lt hd)
  have q1 : (hi N % d * 18446744073709551616 + lo N) / d < 18446744073709551616 := by
    apply Int.ediv_lt_of_lt_mul hd
    have := Int.mul_le_mul_of_nonneg_right (show hi N % d + 1 ≤ d by omega) (show (0 : Int) ≤ 18446744073709551616 by omega)
    omega
  have eN : N = (hi N % d * 18446744073709551616 + lo N) + d * (hi N / d * 18446744073709551616) := by
    have : d * (hi N / d * 18446744073709551616) = d * (hi N / d) * 18446744073709551616 := by rw [Int.mul_assoc]
    rw [this]
    generalize d * (hi N / d) = A at *
    omega
  have eq : N / d = hi N / d * 18446744073709551616 + (hi N % d * 18446744073709551616 + lo N) / d := by
    conv => lhs; rw [eN]
    rw [Int.add_mul_ediv_left _ _ (Int.ne_of_gt hd)]; omega
  have er : N % d = (hi N % d * 18446744073709551616 + lo N) % d := by
    conv => lhs; rw [eN]
    exact Int.add_mul_emod_self_left _ _ _
  have h1 : hi (N / d) = hi N / d := by rw [eq]; exact hi_eq rfl q0 q1
  have h2 : lo (N / d) = (hi N % d * 18446744073709551616 + lo N) / d := by rw [eq]; exact lo_eq rfl q0 q1
  rw [hM1, hM2] at c2
  rw [← h2, ← er] at c2
  rw [← h1] at c1
  have C1 := Lib.hid c1
  have C2 := Lib.hid c2
  clear c1 c2 h1 h2 eq er eN q0 q1 hM1 hM2 dm hl hN
  go_enter Tryz.func174, Tryz.ntmps174
  go_wp2_with fail
  go_step3
  go_wp2_with fail; refine (C1.out _).mono ?_; rintro e v1 ⟨rfl, x1⟩; obtain ⟨c1, f1⟩ := x1.rules; have z1 := x1.size; have lq := fun o => c1 (w.heap.size) o (by first | (simp; done) | (simp; omega) | omega); have mq := fun o => f1 (w.heap.size) o (by first | (simp; done) | (simp; omega) | omega); have k1_0_0 := lq 0; have q1_0_0 := mq 0; have k1_0_1 := lq 1; have q1_0_1 := mq 1; clear lq mq; have lq := fun o => c1 (w.heap.size + 1) o (by first | (simp; done) | (simp; omega) | omega); have mq := fun o => f1 (w.heap.size + 1) o (by first | (simp; done) | (simp; omega) | omega); have k1_1_0 := lq 0; have q1_1_0 := mq 0; have k1_1_1 := lq 1; have q1_1_1 := mq 1; clear lq mq; have lq := fun o => c1 (w.heap.size + 2) o (by first | (simp; done) | (simp; omega) | omega); have mq := fun o => f1 (w.heap.size + 2) o (by first | (simp; done) | (simp; omega) | omega); have k1_2_0 := lq 0; have q1_2_0 := mq 0; have k1_2_1 := lq 1; have q1_2_1 := mq 1; clear lq mq; have lq := fun o => c1 (w.heap.size + 3) o (by first | (simp; done) | (simp; omega) | omega); have mq := fun o => f1 (w.heap.size + 3) o (by first | (simp; done) | (simp; omega) | omega); have k1_3_0 := lq 0; have q1_3_0 := mq 0; have k1_3_1 := lq 1; have q1_3_1 := mq 1; clear lq mq; have z1_0 : w.heap.size < v1.heap.size := (by (try simp at z1); omega); have z1_1 : w.heap.size + 1 < v1.heap.size := (by (try simp at z1); omega); have z1_2 : w.heap.size + 2 < v1.heap.size := (by (try simp at z1); omega); have z1_3 : w.heap.size + 3 < v1.heap.size := (by (try simp at z1); omega); (try simp at z1); clear c1 f1; simp [go_sem, *] at k1_0_0 q1_0_0 k1_0_1 q1_0_1 k1_1_0 q1_1_0 k1_1_1 q1_1_1 k1_2_0 q1_2_0 k1_2_1 q1_2_1 k1_3_0 q1_3_0 k1_3_1 q1_3_1
  go_wp2_with fail; refine (C2.out _).mono ?_; rintro e v2 ⟨rfl, x2⟩; obtain ⟨c2, f2⟩ := x2.rules; have z2 := x2.size; have lq := fun o => c2 (w.heap.size) o (by first | (simp; done) | (simp; omega) | omega); have mq := fun o => f2 (w.heap.size) o (by first | (simp; done) | (simp; omega) | omega); have k2_0_0 := lq 0; have q2_0_0 := mq 0; have k2_0_1 := lq 1; have q2_0_1 := mq 1; clear lq mq; have lq := fun o => c2 (w.heap.size + 1) o (by first | (simp; done) | (simp; omega) | omega); have mq := fun o => f2 (w.heap.size + 1) o (by first | (simp; done) | (simp; omega) | omega); have k2_1_0 := lq 0; have q2_1_0 := mq 0; have k2_1_1 := lq 1; have q2_1_1 := mq 1; clear lq mq; have lq := fun o => c2 (w.heap.size + 2) o (by first | (simp; done) | (simp; omega) | omega); have mq := fun o => f2 (w.heap.size + 2) o (by first | (simp; done) | (simp; omega) | omega); have k2_2_0 := lq 0; have q2_2_0 := mq 0; have k2_2_1 := lq 1; have q2_2_1 := mq 1; clear lq mq; have lq := fun o => c2 (w.heap.size + 3) o (by first | (simp; done) | (simp; omega) | omega); have mq := fun o => f2 (w.heap.size + 3) o (by first | (simp; done) | (simp; omega) | omega); have k2_3_0 := lq 0; have q2_3_0 := mq 0; have k2_3_1 := lq 1; have q2_3_1 := mq 1; clear lq mq; have z2_0 : w.heap.size < v2.heap.size := (by (try simp at z2); omega); have z2_1 : w.heap.size + 1 < v2.heap.size := (by (try simp at z2); omega); have z2_2 : w.heap.size + 2 < v2.heap.size := (by (try simp at z2); omega); have z2_3 : w.heap.size + 3 < v2.heap.size := (by (try simp at z2); omega); (try simp at z2); clear c2 f2; simp [go_sem, *] at k2_0_0 q2_0_0 k2_0_1 q2_0_1 k2_1_0 q2_1_0 k2_1_1 q2_1_1 k2_2_0 q2_2_0 k2_2_1 q2_2_1 k2_3_0 q2_3_0 k2_3_1 q2_3_1; (try clear k1_0_0); (try clear q1_0_0); (try clear k1_0_1); (try clear q1_0_1); (try clear k1_1_0); (try clear q1_1_0); (try clear k1_1_1); (try clear q1_1_1); (try clear k1_2_0); (try clear q1_2_0); (try clear k1_2_1); (try clear q1_2_1); (try clear k1_3_0); (try clear q1_3_0); (try clear k1_3_1); (try clear q1_3_1)
  go_wp2
  rw [Exit.noGoto_ret]
  change bodyPost _ _ _ _ _ _
  simp [bodyPost, results, Tryz.results174, go_sem, *]
  all_goals exact Ext.q
def upB (q r d : Int) : Bool := decide (d - r < r ∨ (d - r = r ∧ q % 2 = 1))
set_option maxHeartbeats 2000000 in
set_option maxRecDepth 100000 in
/-- What Round asks: one more? -/
theorem round_up (neg : Bool) (q r d : Int) (w : World) (hr : 0 ≤ r) (hrd : r < d) (hd2 : d < 18446744073709551616) :
    Calls Tryz.prog 288 #[.bool neg, .agg #[.int .u64 (hi q), .int .u64 (lo q)], .agg #[.int .u64 0, .int .u64 r], .agg #[.int .u64 0, .int .u64 d]] w fun e w' => e = .returned (.bool (upB q r d)) ∧ Ext w w' := by
  have z1 : hi d = 0 := by unfold hi; omega
  have z2 : lo d = d := by unfold lo; omega
  have z3 : hi r = 0 := by unfold hi; omega
  have z4 : lo r = r := by unfold lo; omega
  have z5 : hi (d - r) = 0 := by unfold hi; omega
  have z6 : lo (d - r) = d - r := by unfold lo; omega
  have sb := fun v => size_sub' d r v ⟨by omega, by omega⟩ ⟨by omega, by omega⟩ (by omega)
  have sl := fun v => size_less (d - r) r v
  rw [z1, z2, z3, z4, z5, z6] at sb
  rw [z3, z4, z5, z6] at sl
  have SB := Lib.hid sb
  have SL := Lib.hid sl
  have L2 := lo_mod2 q
  have LQ := lo_nn q
  clear sb sl z1 z2 z3 z4 z5 z6
  go_enter Tryz.func288, Tryz.ntmps288
  go_wp2_with fail; refine (SB.out _).mono ?_; rintro e v1 ⟨rfl, x1⟩; obtain ⟨c1, f1⟩ := x1.rules; have z1 := x1.size; have lq := fun o => c1 (w.heap.size) o (by first | (simp; done) | (simp; omega) | omega); have mq := fun o => f1 (w.heap.size) o (by first | (simp; done) | (simp; omega) | omega); have k1_0_0 := lq 0; have q1_0_0 := mq 0; have k1_0_1 := lq 1; have q1_0_1 := mq 1; clear lq mq; have lq := fun o => c1 (w.heap.size + 1) o (by first | (simp; done) | (simp; omega) | omega); have mq := fun o => f1 (w.heap.size + 1) o (by first | (simp; done) | (simp; omega) | omega); have k1_1_0 := lq 0; have q1_1_0 := mq 0; have k1_1_1 := lq 1; have q1_1_1 := mq 1; clear lq mq; have lq := fun o => c1 (w.heap.size + 2) o (by first | (simp; done) | (simp; omega) | omega); have mq := fun o => f1 (w.heap.size + 2) o (by first | (simp; done) | (simp; omega) | omega); have k1_2_0 := lq 0; have q1_2_0 := mq 0; have k1_2_1 := lq 1; have q1_2_1 := mq 1; clear lq mq; have z1_0 : w.heap.size < v1.heap.size := (by (try simp at z1); omega); have z1_1 : w.heap.size + 1 < v1.heap.size := (by (try simp at z1); omega); have z1_2 : w.heap.size + 2 < v1.heap.size := (by (try simp at z1); omega); (try simp at z1); clear c1 f1; simp [go_sem, *] at k1_0_0 q1_0_0 k1_0_1 q1_0_1 k1_1_0 q1_1_0 k1_1_1 q1_1_1 k1_2_0 q1_2_0 k1_2_1 q1_2_1
  rcases Int.lt_trichotomy (d - r) r with h | h | h
  · have g : decide (d - r < r) = true := by simp; omega
    have U : upB q r d = true := by simp [upB]; omega
    have U' := Lib.hid U
    clear h U
    go_wp2_with fail; refine (SL.out _).mono ?_; rintro e v2 ⟨rfl, x2⟩; obtain ⟨c2, f2⟩ := x2.rules; have z2 := x2.size; (try clear k1_0_0); (try clear q1_0_0); (try clear k1_0_1); (try clear q1_0_1); (try clear k1_1_0); (try clear q1_1_0); (try clear k1_1_1); (try clear q1_1_1); (try clear k1_2_0); (try clear q1_2_0); (try clear k1_2_1); (try clear q1_2_1)
    go_wp2
    go_ret
    exact ⟨by rw [U'.out]; rfl, Ext.q⟩
  · have g : decide (d - r < r) = false := by simp; omega
    by_cases o : q % 2 = 1
    · have U : upB q r d = true := by simp [upB]; omega
      have U' := Lib.hid U
      have g2 : (lo q % 2 == 1) = true := by rw [L2]; simp [o]
      clear U o L2
      rw [h] at SL
      go_wp2_with fail; refine (SL.out _).mono ?_; rintro e v2 ⟨rfl, x2⟩; obtain ⟨c2, f2⟩ := x2.rules; have z2 := x2.size; have lq := fun o => c2 (w.heap.size) o (by first | (simp; done) | (simp; omega) | omega); have mq := fun o => f2 (w.heap.size) o (by first | (simp; done) | (simp; omega) | omega); have k2_0_0 := lq 0; have q2_0_0 := mq 0; have k2_0_1 := lq 1; have q2_0_1 := mq 1; clear lq mq; have lq := fun o => c2 (w.heap.size + 1) o (by first | (simp; done) | (simp; omega) | omega); have mq := fun o => f2 (w.heap.size + 1) o (by first | (simp; done) | (simp; omega) | omega); have k2_1_0 := lq 0; have q2_1_0 := mq 0; have k2_1_1 := lq 1; have q2_1_1 := mq 1; clear lq mq; have lq := fun o => c2 (w.heap.size + 2) o (by first | (simp; done) | (simp; omega) | omega); have mq := fun o => f2 (w.heap.size + 2) o (by first | (simp; done) | (simp; omega) | omega); have k2_2_0 := lq 0; have q2_2_0 := mq 0; have k2_2_1 := lq 1; have q2_2_1 := mq 1; clear lq mq; have lq := fun o => c2 (v1.heap.size) o (by first | (simp; done) | (simp; omega) | omega); have mq := fun o => f2 (v1.heap.size) o (by first | (simp; done) | (simp; omega) | omega); have k2_v1_heap_size_0 := lq 0; have q2_v1_heap_size_0 := mq 0; have k2_v1_heap_size_1 := lq 1; have q2_v1_heap_size_1 := mq 1; clear lq mq; have z2_0 : w.heap.size < v2.heap.size := (by (try simp at z2); omega); have z2_1 : w.heap.size + 1 < v2.heap.size := (by (try simp at z2); omega); have z2_2 : w.heap.size + 2 < v2.heap.size := (by (try simp at z2); omega); have z2_v1_heap_size : v1.heap.size < v2.heap.size := (by (try simp at z2); omega); (try simp at z2); clear c2 f2; simp [go_sem, *] at k2_0_0 q2_0_0 k2_0_1 q2_0_1 k2_1_0 q2_1_0 k2_1_1 q2_1_1 k2_2_0 q2_2_0 k2_2_1 q2_2_1 k2_v1_heap_size_0 q2_v1_heap_size_0 k2_v1_heap_size_1 q2_v1_heap_size_1; (try clear k1_0_0); (try clear q1_0_0); (try clear k1_0_1); (try clear q1_0_1); (try clear k1_1_0); (try clear q1_1_0); (try clear k1_1_1); (try clear q1_1_1); (try clear k1_2_0); (try clear q1_2_0); (try clear k1_2_1); (try clear q1_2_1)
      go_wp2
      go_ret
      exact ⟨by rw [U'.out]; rfl, Ext.q⟩
    · have U : upB q r d = false := by simp [upB]; omega
      have U' := Lib.hid U
      have g2 : (lo q % 2 == 1) = false := by rw [L2]; simp [o]
      clear U o L2
      rw [h] at SL
      go_wp2_with fail; refine (SL.out _).mono ?_; rintro e v2 ⟨rfl, x2⟩; obtain ⟨c2, f2⟩ := x2.rules; have z2 := x2.size; have lq := fun o => c2 (w.heap.size) o (by first | (simp; done) | (simp; omega) | omega); have mq := fun o => f2 (w.heap.size) o (by first | (simp; done) | (simp; omega) | omega); have k2_0_0 := lq 0; have q2_0_0 := mq 0; have k2_0_1 := lq 1; have q2_0_1 := mq 1; clear lq mq; have lq := fun o => c2 (w.heap.size + 1) o (by first | (simp; done) | (simp; omega) | omega); have mq := fun o => f2 (w.heap.size + 1) o (by first | (simp; done) | (simp; omega) | omega); have k2_1_0 := lq 0; have q2_1_0 := mq 0; have k2_1_1 := lq 1; have q2_1_1 := mq 1; clear lq mq; have lq := fun o => c2 (w.heap.size + 2) o (by first | (simp; done) | (simp; omega) | omega); have mq := fun o => f2 (w.heap.size + 2) o (by first | (simp; done) | (simp; omega) | omega); have k2_2_0 := lq 0; have q2_2_0 := mq 0; have k2_2_1 := lq 1; have q2_2_1 := mq 1; clear lq mq; have lq := fun o => c2 (v1.heap.size) o (by first | (simp; done) | (simp; omega) | omega); have mq := fun o => f2 (v1.heap.size) o (by first | (simp; done) | (simp; omega) | omega); have k2_v1_heap_size_0 := lq 0; have q2_v1_heap_size_0 := mq 0; have k2_v1_heap_size_1 := lq 1; have q2_v1_heap_size_1 := mq 1; clear lq mq; have z2_0 : w.heap.size < v2.heap.size := (by (try simp at z2); omega); have z2_1 : w.heap.size + 1 < v2.heap.size := (by (try simp at z2); omega); have z2_2 : w.heap.size + 2 < v2.heap.size := (by (try simp at z2); omega); have z2_v1_heap_size : v1.heap.size < v2.heap.size := (by (try simp at z2); omega); (try simp at z2); clear c2 f2; simp [go_sem, *] at k2_0_0 q2_0_0 k2_0_1 q2_0_1 k2_1_0 q2_1_0 k2_1_1 q2_1_1 k2_2_0 q2_2_0 k2_2_1 q2_2_1 k2_v1_heap_size_0 q2_v1_heap_size_0 k2_v1_heap_size_1 q2_v1_heap_size_1; (try clear k1_0_0); (try clear q1_0_0); (try clear k1_0_1); (try clear q1_0_1); (try clear k1_1_0); (try clear q1_1_0); (try clear k1_1_1); (try clear q1_1_1); (try clear k1_2_0); (try clear q1_2_0); (try clear k1_2_1); (try clear q1_2_1)
      go_wp2
      go_ret
      exact ⟨by rw [U'.out]; rfl, Ext.q⟩
  · have g : decide (d - r < r) = false := by simp; omega
    have U : upB q r d = false := by simp [upB]; omega
    have U' := Lib.hid U
    have g3 : ¬ (d - r = r) := by omega
    clear h U
    go_wp2_with fail; refine (SL.out _).mono ?_; rintro e v2 ⟨rfl, x2⟩; obtain ⟨c2, f2⟩ := x2.rules; have z2 := x2.size; have lq := fun o => c2 (w.heap.size) o (by first | (simp; done) | (simp; omega) | omega); have mq := fun o => f2 (w.heap.size) o (by first | (simp; done) | (simp; omega) | omega); have k2_0_0 := lq 0; have q2_0_0 := mq 0; have k2_0_1 := lq 1; have q2_0_1 := mq 1; clear lq mq; have lq := fun o => c2 (w.heap.size + 1) o (by first | (simp; done) | (simp; omega) | omega); have mq := fun o => f2 (w.heap.size + 1) o (by first | (simp; done) | (simp; omega) | omega); have k2_1_0 := lq 0; have q2_1_0 := mq 0; have k2_1_1 := lq 1; have q2_1_1 := mq 1; clear lq mq; have lq := fun o => c2 (w.heap.size + 2) o (by first | (simp; done) | (simp; omega) | omega); have mq := fun o => f2 (w.heap.size + 2) o (by first | (simp; done) | (simp; omega) | omega); have k2_2_0 := lq 0; have q2_2_0 := mq 0; have k2_2_1 := lq 1; have q2_2_1 := mq 1; clear lq mq; have lq := fun o => c2 (v1.heap.size) o (by first | (simp; done) | (simp; omega) | omega); have mq := fun o => f2 (v1.heap.size) o (by first | (simp; done) | (simp; omega) | omega); have k2_v1_heap_size_0 := lq 0; have q2_v1_heap_size_0 := mq 0; have k2_v1_heap_size_1 := lq 1; have q2_v1_heap_size_1 := mq 1; clear lq mq; have z2_0 : w.heap.size < v2.heap.size := (by (try simp at z2); omega); have z2_1 : w.heap.size + 1 < v2.heap.size := (by (try simp at z2); omega); have z2_2 : w.heap.size + 2 < v2.heap.size := (by (try simp at z2); omega); have z2_v1_heap_size : v1.heap.size < v2.heap.size := (by (try simp at z2); omega); (try simp at z2); clear c2 f2; simp [go_sem, *] at k2_0_0 q2_0_0 k2_0_1 q2_0_1 k2_1_0 q2_1_0 k2_1_1 q2_1_1 k2_2_0 q2_2_0 k2_2_1 q2_2_1 k2_v1_heap_size_0 q2_v1_heap_size_0 k2_v1_heap_size_1 q2_v1_heap_size_1; (try clear k1_0_0); (try clear q1_0_0); (try clear k1_0_1); (try clear q1_0_1); (try clear k1_1_0); (try clear q1_1_0); (try clear k1_1_1); (try clear q1_1_1); (try clear k1_2_0); (try clear q1_2_0); (try clear k1_2_1); (try clear q1_2_1)
    go_wp2
    go_ret
    exact ⟨by rw [U'.out]; rfl, Ext.q⟩
/-- n / d to the nearest, of two that are as near the even one. -/
def rdiv (n d : Int) : Int := sg (decide (n < 0) != decide (d < 0)) (near0 (mag n) (mag d))
theorem near0_up_eq (m e : Int) (h : upB (m / e) (m % e) e = true) : near0 m e = m / e + 1 := near0_up (by simpa [upB] using h)
theorem near0_down_eq (m e : Int) (h : upB (m / e) (m % e) e = false) : near0 m e = m / e := near0_down (by simpa [upB] using h)
set_option maxHeartbeats 2000000 in
/-- The walk of over by Round$1, the divisor not 0; its halves are told by the premises. -/
theorem over_core1 (n d hd ld : Int) (w : World) (hn : W128 n) (hm : mag n < 85070591730234615865843651857942052864) (hd0 : 0 < mag d) (hd2 : mag d < 18446744073709551616)
    (hz : ¬ hd = 0)
    (OD : ∀ v, Calls Tryz.prog 173 #[.agg #[.int .i64 hd, .int .u64 ld]] v fun e v' => e = .returned (.tuple #[.bool (decide (d < 0)), .agg #[.int .u64 0, .int .u64 (mag d)]]) ∧ Ext v v') :
    Calls Tryz.prog 287 #[.agg #[.int .i64 (hi n), .int .u64 (lo n)], .agg #[.int .i64 hd, .int .u64 ld], .func (.func 288) #[] #[]] w
      fun e w' => e = .returned (.tuple #[.agg #[.int .i64 (hi (rdiv n d)), .int .u64 (lo (rdiv n d))], .int .i64 0]) ∧ Ext w w' := by
  have m0 : 0 ≤ mag n := hn.m.1
  obtain ⟨r0, r1, r2, r3⟩ := rest_facts (mag n) (mag d) m0 hd0
  have O := Lib.hid (fun v => of_any n v hn)
  have OD' := Lib.hid OD
  have DV := Lib.hid (fun v => divide_short (mag n) (mag d) v hn.m hd0 hd2)
  have UP := Lib.hid (fun v => round_up (decide (n < 0) != decide (d < 0)) (mag n / mag d) (mag n % mag d) (mag d) v r1 r2 hd2)
  have SN := Lib.hid (fun v => size_next' (mag n / mag d) v r0 (by omega))
  have TU := Lib.hid (fun v => told_ok (decide (n < 0) != decide (d < 0)) (mag n / mag d + 1) v ⟨by omega, by omega⟩)
  have TD := Lib.hid (fun v => told_ok (decide (n < 0) != decide (d < 0)) (mag n / mag d) v ⟨r0, by omega⟩)
  have EU := Lib.hid (near0_up_eq (mag n) (mag d))
  have ED := Lib.hid (near0_down_eq (mag n) (mag d))
  clear hn OD r0 r1 r2 r3 hm hd0 hd2
  go_enter Tryz.func287, Tryz.ntmps287
  go_wp2_with fail; refine (O.out _).mono ?_; rintro e v1 ⟨rfl, x1⟩; obtain ⟨c1, f1⟩ := x1.rules; have z1 := x1.size; have lq := fun o => c1 (w.heap.size + 1) o (by first | (simp; done) | (simp; omega) | omega); have mq := fun o => f1 (w.heap.size + 1) o (by first | (simp; done) | (simp; omega) | omega); have k1_1_0 := lq 0; have q1_1_0 := mq 0; have k1_1_1 := lq 1; have q1_1_1 := mq 1; clear lq mq; have lq := fun o => c1 (w.heap.size + 2) o (by first | (simp; done) | (simp; omega) | omega); have mq := fun o => f1 (w.heap.size + 2) o (by first | (simp; done) | (simp; omega) | omega); have k1_2_0 := lq 0; have q1_2_0 := mq 0; have k1_2_1 := lq 1; have q1_2_1 := mq 1; clear lq mq; have z1_0 : w.heap.size < v1.heap.size := (by (try simp at z1); omega); have z1_1 : w.heap.size + 1 < v1.heap.size := (by (try simp at z1); omega); have z1_2 : w.heap.size + 2 < v1.heap.size := (by (try simp at z1); omega); (try simp at z1); clear c1 f1; simp [go_sem, *] at k1_1_0 q1_1_0 k1_1_1 q1_1_1 k1_2_0 q1_2_0 k1_2_1 q1_2_1
  go_wp2_with fail; refine (OD'.out _).mono ?_; rintro e v2 ⟨rfl, x2⟩; obtain ⟨c2, f2⟩ := x2.rules; have z2 := x2.size; have lq := fun o => c2 (w.heap.size + 2) o (by first | (simp; done) | (simp; omega) | omega); have mq := fun o => f2 (w.heap.size + 2) o (by first | (simp; done) | (simp; omega) | omega); have k2_2_0 := lq 0; have q2_2_0 := mq 0; have k2_2_1 := lq 1; have q2_2_1 := mq 1; clear lq mq; have lq := fun o => c2 (v1.heap.size) o (by first | (simp; done) | (simp; omega) | omega); have mq := fun o => f2 (v1.heap.size) o (by first | (simp; done) | (simp; omega) | omega); have k2_v1_heap_size_0 := lq 0; have q2_v1_heap_size_0 := mq 0; have k2_v1_heap_size_1 := lq 1; have q2_v1_heap_size_1 := mq 1; clear lq mq; have z2_0 : w.heap.size < v2.heap.size := (by (try simp at z2); omega); have z2_1 : w.heap.size + 1 < v2.heap.size := (by (try simp at z2); omega); have z2_2 : w.heap.size + 2 < v2.heap.size := (by (try simp at z2); omega); have z2_v1_heap_size : v1.heap.size < v2.heap.size := (by (try simp at z2); omega); (try simp at z2); clear c2 f2; simp [go_sem, *] at k2_2_0 q2_2_0 k2_2_1 q2_2_1 k2_v1_heap_size_0 q2_v1_heap_size_0 k2_v1_heap_size_1 q2_v1_heap_size_1; (try clear k1_1_0); (try clear q1_1_0); (try clear k1_1_1); (try clear q1_1_1); (try clear k1_2_0); (try clear q1_2_0); (try clear k1_2_1); (try clear q1_2_1)
  go_wp2_with fail; refine (DV.out _).mono ?_; rintro e v3 ⟨rfl, x3⟩; obtain ⟨c3, f3⟩ := x3.rules; have z3 := x3.size; have lq := fun o => c3 (w.heap.size + 2) o (by first | (simp; done) | (simp; omega) | omega); have mq := fun o => f3 (w.heap.size + 2) o (by first | (simp; done) | (simp; omega) | omega); have k3_2_0 := lq 0; have q3_2_0 := mq 0; have k3_2_1 := lq 1; have q3_2_1 := mq 1; clear lq mq; have lq := fun o => c3 (v1.heap.size) o (by first | (simp; done) | (simp; omega) | omega); have mq := fun o => f3 (v1.heap.size) o (by first | (simp; done) | (simp; omega) | omega); have k3_v1_heap_size_0 := lq 0; have q3_v1_heap_size_0 := mq 0; have k3_v1_heap_size_1 := lq 1; have q3_v1_heap_size_1 := mq 1; clear lq mq; have lq := fun o => c3 (v2.heap.size) o (by first | (simp; done) | (simp; omega) | omega); have mq := fun o => f3 (v2.heap.size) o (by first | (simp; done) | (simp; omega) | omega); have k3_v2_heap_size_0 := lq 0; have q3_v2_heap_size_0 := mq 0; have k3_v2_heap_size_1 := lq 1; have q3_v2_heap_size_1 := mq 1; clear lq mq; have z3_0 : w.heap.size < v3.heap.size := (by (try simp at z3); omega); have z3_1 : w.heap.size + 1 < v3.heap.size := (by (try simp at z3); omega); have z3_2 : w.heap.size + 2 < v3.heap.size := (by (try simp at z3); omega); have z3_v1_heap_size : v1.heap.size < v3.heap.size := (by (try simp at z3); omega); have z3_v2_heap_size : v2.heap.size < v3.heap.size := (by (try simp at z3); omega); (try simp at z3); clear c3 f3; simp [go_sem, *] at k3_2_0 q3_2_0 k3_2_1 q3_2_1 k3_v1_heap_size_0 q3_v1_heap_size_0 k3_v1_heap_size_1 q3_v1_heap_size_1 k3_v2_heap_size_0 q3_v2_heap_size_0 k3_v2_heap_size_1 q3_v2_heap_size_1; (try clear k2_2_0); (try clear q2_2_0); (try clear k2_2_1); (try clear q2_2_1); (try clear k2_v1_heap_size_0); (try clear q2_v1_heap_size_0); (try clear k2_v1_heap_size_1); (try clear q2_v1_heap_size_1)
  go_wp2_with fail; refine (UP.out _).mono ?_; rintro e v4 ⟨rfl, x4⟩; obtain ⟨c4, f4⟩ := x4.rules; have z4 := x4.size; have lq := fun o => c4 (w.heap.size + 2) o (by first | (simp; done) | (simp; omega) | omega); have mq := fun o => f4 (w.heap.size + 2) o (by first | (simp; done) | (simp; omega) | omega); have k4_2_0 := lq 0; have q4_2_0 := mq 0; have k4_2_1 := lq 1; have q4_2_1 := mq 1; clear lq mq; have lq := fun o => c4 (v2.heap.size) o (by first | (simp; done) | (simp; omega) | omega); have mq := fun o => f4 (v2.heap.size) o (by first | (simp; done) | (simp; omega) | omega); have k4_v2_heap_size_0 := lq 0; have q4_v2_heap_size_0 := mq 0; have k4_v2_heap_size_1 := lq 1; have q4_v2_heap_size_1 := mq 1; clear lq mq; have lq := fun o => c4 (v3.heap.size) o (by first | (simp; done) | (simp; omega) | omega); have mq := fun o => f4 (v3.heap.size) o (by first | (simp; done) | (simp; omega) | omega); have k4_v3_heap_size_0 := lq 0; have q4_v3_heap_size_0 := mq 0; have k4_v3_heap_size_1 := lq 1; have q4_v3_heap_size_1 := mq 1; clear lq mq; have z4_0 : w.heap.size < v4.heap.size := (by (try simp at z4); omega); have z4_1 : w.heap.size + 1 < v4.heap.size := (by (try simp at z4); omega); have z4_2 : w.heap.size + 2 < v4.heap.size := (by (try simp at z4); omega); have z4_v2_heap_size : v2.heap.size < v4.heap.size := (by (try simp at z4); omega); have z4_v3_heap_size : v3.heap.size < v4.heap.size := (by (try simp at z4); omega); (try simp at z4); clear c4 f4; simp [go_sem, *] at k4_2_0 q4_2_0 k4_2_1 q4_2_1 k4_v2_heap_size_0 q4_v2_heap_size_0 k4_v2_heap_size_1 q4_v2_heap_size_1 k4_v3_heap_size_0 q4_v3_heap_size_0 k4_v3_heap_size_1 q4_v3_heap_size_1; (try clear k3_2_0); (try clear q3_2_0); (try clear k3_2_1); (try clear q3_2_1); (try clear k3_v1_heap_size_0); (try clear q3_v1_heap_size_0); (try clear k3_v1_heap_size_1); (try clear q3_v1_heap_size_1); (try clear k3_v2_heap_size_0); (try clear q3_v2_heap_size_0); (try clear k3_v2_heap_size_1); (try clear q3_v2_heap_size_1)
  cases hu : upB (mag n / mag d) (mag n % mag d) (mag d)
  · go_wp2_with fail; refine (TD.out _).mono ?_; rintro e v6 ⟨rfl, x6⟩; obtain ⟨c6, f6⟩ := x6.rules; have z6 := x6.size; have lq := fun o => c6 (w.heap.size + 2) o (by first | (simp; done) | (simp; omega) | omega); have mq := fun o => f6 (w.heap.size + 2) o (by first | (simp; done) | (simp; omega) | omega); have k6_2_0 := lq 0; have q6_2_0 := mq 0; have k6_2_1 := lq 1; have q6_2_1 := mq 1; clear lq mq; have z6_0 : w.heap.size < v6.heap.size := (by (try simp at z6); omega); have z6_1 : w.heap.size + 1 < v6.heap.size := (by (try simp at z6); omega); have z6_2 : w.heap.size + 2 < v6.heap.size := (by (try simp at z6); omega); (try simp at z6); clear c6 f6; simp [go_sem, *] at k6_2_0 q6_2_0 k6_2_1 q6_2_1; (try clear k4_2_0); (try clear q4_2_0); (try clear k4_2_1); (try clear q4_2_1); (try clear k4_v2_heap_size_0); (try clear q4_v2_heap_size_0); (try clear k4_v2_heap_size_1); (try clear q4_v2_heap_size_1); (try clear k4_v3_heap_size_0); (try clear q4_v3_heap_size_0); (try clear k4_v3_heap_size_1); (try clear q4_v3_heap_size_1)
    go_wp2
    simp [bodyPost, results, Tryz.results287, go_sem, *]
    rw [rdiv, ED.out hu]
    exact ⟨⟨rfl, rfl⟩, Ext.q⟩
  · go_wp2_with fail; refine (SN.out _).mono ?_; rintro e v5 ⟨rfl, x5⟩; obtain ⟨c5, f5⟩ := x5.rules; have z5 := x5.size; have lq := fun o => c5 (w.heap.size + 2) o (by first | (simp; done) | (simp; omega) | omega); have mq := fun o => f5 (w.heap.size + 2) o (by first | (simp; done) | (simp; omega) | omega); have k5_2_0 := lq 0; have q5_2_0 := mq 0; have k5_2_1 := lq 1; have q5_2_1 := mq 1; clear lq mq; have lq := fun o => c5 (v3.heap.size) o (by first | (simp; done) | (simp; omega) | omega); have mq := fun o => f5 (v3.heap.size) o (by first | (simp; done) | (simp; omega) | omega); have k5_v3_heap_size_0 := lq 0; have q5_v3_heap_size_0 := mq 0; have k5_v3_heap_size_1 := lq 1; have q5_v3_heap_size_1 := mq 1; clear lq mq; have z5_0 : w.heap.size < v5.heap.size := (by (try simp at z5); omega); have z5_1 : w.heap.size + 1 < v5.heap.size := (by (try simp at z5); omega); have z5_2 : w.heap.size + 2 < v5.heap.size := (by (try simp at z5); omega); have z5_v3_heap_size : v3.heap.size < v5.heap.size := (by (try simp at z5); omega); (try simp at z5); clear c5 f5; simp [go_sem, *] at k5_2_0 q5_2_0 k5_2_1 q5_2_1 k5_v3_heap_size_0 q5_v3_heap_size_0 k5_v3_heap_size_1 q5_v3_heap_size_1; (try clear k4_2_0); (try clear q4_2_0); (try clear k4_2_1); (try clear q4_2_1); (try clear k4_v2_heap_size_0); (try clear q4_v2_heap_size_0); (try clear k4_v2_heap_size_1); (try clear q4_v2_heap_size_1); (try clear k4_v3_heap_size_0); (try clear q4_v3_heap_size_0); (try clear k4_v3_heap_size_1); (try clear q4_v3_heap_size_1)
    go_wp2_with fail; refine (TU.out _).mono ?_; rintro e v6 ⟨rfl, x6⟩; obtain ⟨c6, f6⟩ := x6.rules; have z6 := x6.size; have lq := fun o => c6 (w.heap.size + 2) o (by first | (simp; done) | (simp; omega) | omega); have mq := fun o => f6 (w.heap.size + 2) o (by first | (simp; done) | (simp; omega) | omega); have k6_2_0 := lq 0; have q6_2_0 := mq 0; have k6_2_1 := lq 1; have q6_2_1 := mq 1; clear lq mq; have z6_0 : w.heap.size < v6.heap.size := (by (try simp at z6); omega); have z6_1 : w.heap.size + 1 < v6.heap.size := (by (try simp at z6); omega); have z6_2 : w.heap.size + 2 < v6.heap.size := (by (try simp at z6); omega); (try simp at z6); clear c6 f6; simp [go_sem, *] at k6_2_0 q6_2_0 k6_2_1 q6_2_1; (try clear k5_2_0); (try clear q5_2_0); (try clear k5_2_1); (try clear q5_2_1); (try clear k5_v3_heap_size_0); (try clear q5_v3_heap_size_0); (try clear k5_v3_heap_size_1); (try clear q5_v3_heap_size_1)
    go_wp2
    simp [bodyPost, results, Tryz.results287, go_sem, *]
    rw [rdiv, EU.out hu]
    exact ⟨⟨rfl, rfl⟩, Ext.q⟩
set_option maxHeartbeats 2000000 in
/-- The walk of over by Round$1, the divisor not 0; its halves are told by the premises. -/
theorem over_core0 (n d ld : Int) (w : World) (hn : W128 n) (hm : mag n < 85070591730234615865843651857942052864) (hd0 : 0 < mag d) (hd2 : mag d < 18446744073709551616)
    (hz : ¬ ld = 0)
    (OD : ∀ v, Calls Tryz.prog 173 #[.agg #[.int .i64 0, .int .u64 ld]] v fun e v' => e = .returned (.tuple #[.bool (decide (d < 0)), .agg #[.int .u64 0, .int .u64 (mag d)]]) ∧ Ext v v') :
    Calls Tryz.prog 287 #[.agg #[.int .i64 (hi n), .int .u64 (lo n)], .agg #[.int .i64 0, .int .u64 ld], .func (.func 288) #[] #[]] w
      fun e w' => e = .returned (.tuple #[.agg #[.int .i64 (hi (rdiv n d)), .int .u64 (lo (rdiv n d))], .int .i64 0]) ∧ Ext w w' := by
  have m0 : 0 ≤ mag n := hn.m.1
  obtain ⟨r0, r1, r2, r3⟩ := rest_facts (mag n) (mag d) m0 hd0
  have O := Lib.hid (fun v => of_any n v hn)
  have OD' := Lib.hid OD
  have DV := Lib.hid (fun v => divide_short (mag n) (mag d) v hn.m hd0 hd2)
  have UP := Lib.hid (fun v => round_up (decide (n < 0) != decide (d < 0)) (mag n / mag d) (mag n % mag d) (mag d) v r1 r2 hd2)
  have SN := Lib.hid (fun v => size_next' (mag n / mag d) v r0 (by omega))
  have TU := Lib.hid (fun v => told_ok (decide (n < 0) != decide (d < 0)) (mag n / mag d + 1) v ⟨by omega, by omega⟩)
  have TD := Lib.hid (fun v => told_ok (decide (n < 0) != decide (d < 0)) (mag n / mag d) v ⟨r0, by omega⟩)
  have EU := Lib.hid (near0_up_eq (mag n) (mag d))
  have ED := Lib.hid (near0_down_eq (mag n) (mag d))
  clear hn OD r0 r1 r2 r3 hm hd0 hd2
  go_enter Tryz.func287, Tryz.ntmps287
  go_wp2_with fail; refine (O.out _).mono ?_; rintro e v1 ⟨rfl, x1⟩; obtain ⟨c1, f1⟩ := x1.rules; have z1 := x1.size; have lq := fun o => c1 (w.heap.size + 1) o (by first | (simp; done) | (simp; omega) | omega); have mq := fun o => f1 (w.heap.size + 1) o (by first | (simp; done) | (simp; omega) | omega); have k1_1_0 := lq 0; have q1_1_0 := mq 0; have k1_1_1 := lq 1; have q1_1_1 := mq 1; clear lq mq; have lq := fun o => c1 (w.heap.size + 2) o (by first | (simp; done) | (simp; omega) | omega); have mq := fun o => f1 (w.heap.size + 2) o (by first | (simp; done) | (simp; omega) | omega); have k1_2_0 := lq 0; have q1_2_0 := mq 0; have k1_2_1 := lq 1; have q1_2_1 := mq 1; clear lq mq; have z1_0 : w.heap.size < v1.heap.size := (by (try simp at z1); omega); have z1_1 : w.heap.size + 1 < v1.heap.size := (by (try simp at z1); omega); have z1_2 : w.heap.size + 2 < v1.heap.size := (by (try simp at z1); omega); (try simp at z1); clear c1 f1; simp [go_sem, *] at k1_1_0 q1_1_0 k1_1_1 q1_1_1 k1_2_0 q1_2_0 k1_2_1 q1_2_1
  go_wp2_with fail; refine (OD'.out _).mono ?_; rintro e v2 ⟨rfl, x2⟩; obtain ⟨c2, f2⟩ := x2.rules; have z2 := x2.size; have lq := fun o => c2 (w.heap.size + 2) o (by first | (simp; done) | (simp; omega) | omega); have mq := fun o => f2 (w.heap.size + 2) o (by first | (simp; done) | (simp; omega) | omega); have k2_2_0 := lq 0; have q2_2_0 := mq 0; have k2_2_1 := lq 1; have q2_2_1 := mq 1; clear lq mq; have lq := fun o => c2 (v1.heap.size) o (by first | (simp; done) | (simp; omega) | omega); have mq := fun o => f2 (v1.heap.size) o (by first | (simp; done) | (simp; omega) | omega); have k2_v1_heap_size_0 := lq 0; have q2_v1_heap_size_0 := mq 0; have k2_v1_heap_size_1 := lq 1; have q2_v1_heap_size_1 := mq 1; clear lq mq; have z2_0 : w.heap.size < v2.heap.size := (by (try simp at z2); omega); have z2_1 : w.heap.size + 1 < v2.heap.size := (by (try simp at z2); omega); have z2_2 : w.heap.size + 2 < v2.heap.size := (by (try simp at z2); omega); have z2_v1_heap_size : v1.heap.size < v2.heap.size := (by (try simp at z2); omega); (try simp at z2); clear c2 f2; simp [go_sem, *] at k2_2_0 q2_2_0 k2_2_1 q2_2_1 k2_v1_heap_size_0 q2_v1_heap_size_0 k2_v1_heap_size_1 q2_v1_heap_size_1; (try clear k1_1_0); (try clear q1_1_0); (try clear k1_1_1); (try clear q1_1_1); (try clear k1_2_0); (try clear q1_2_0); (try clear k1_2_1); (try clear q1_2_1)
  go_wp2_with fail; refine (DV.out _).mono ?_; rintro e v3 ⟨rfl, x3⟩; obtain ⟨c3, f3⟩ := x3.rules; have z3 := x3.size; have lq := fun o => c3 (w.heap.size + 2) o (by first | (simp; done) | (simp; omega) | omega); have mq := fun o => f3 (w.heap.size + 2) o (by first | (simp; done) | (simp; omega) | omega); have k3_2_0 := lq 0; have q3_2_0 := mq 0; have k3_2_1 := lq 1; have q3_2_1 := mq 1; clear lq mq; have lq := fun o => c3 (v1.heap.size) o (by first | (simp; done) | (simp; omega) | omega); have mq := fun o => f3 (v1.heap.size) o (by first | (simp; done) | (simp; omega) | omega); have k3_v1_heap_size_0 := lq 0; have q3_v1_heap_size_0 := mq 0; have k3_v1_heap_size_1 := lq 1; have q3_v1_heap_size_1 := mq 1; clear lq mq; have lq := fun o => c3 (v2.heap.size) o (by first | (simp; done) | (simp; omega) | omega); have mq := fun o => f3 (v2.heap.size) o (by first | (simp; done) | (simp; omega) | omega); have k3_v2_heap_size_0 := lq 0; have q3_v2_heap_size_0 := mq 0; have k3_v2_heap_size_1 := lq 1; have q3_v2_heap_size_1 := mq 1; clear lq mq; have z3_0 : w.heap.size < v3.heap.size := (by (try simp at z3); omega); have z3_1 : w.heap.size + 1 < v3.heap.size := (by (try simp at z3); omega); have z3_2 : w.heap.size + 2 < v3.heap.size := (by (try simp at z3); omega); have z3_v1_heap_size : v1.heap.size < v3.heap.size := (by (try simp at z3); omega); have z3_v2_heap_size : v2.heap.size < v3.heap.size := (by (try simp at z3); omega); (try simp at z3); clear c3 f3; simp [go_sem, *] at k3_2_0 q3_2_0 k3_2_1 q3_2_1 k3_v1_heap_size_0 q3_v1_heap_size_0 k3_v1_heap_size_1 q3_v1_heap_size_1 k3_v2_heap_size_0 q3_v2_heap_size_0 k3_v2_heap_size_1 q3_v2_heap_size_1; (try clear k2_2_0); (try clear q2_2_0); (try clear k2_2_1); (try clear q2_2_1); (try clear k2_v1_heap_size_0); (try clear q2_v1_heap_size_0); (try clear k2_v1_heap_size_1); (try clear q2_v1_heap_size_1)
  go_wp2_with fail; refine (UP.out _).mono ?_; rintro e v4 ⟨rfl, x4⟩; obtain ⟨c4, f4⟩ := x4.rules; have z4 := x4.size; have lq := fun o => c4 (w.heap.size + 2) o (by first | (simp; done) | (simp; omega) | omega); have mq := fun o => f4 (w.heap.size + 2) o (by first | (simp; done) | (simp; omega) | omega); have k4_2_0 := lq 0; have q4_2_0 := mq 0; have k4_2_1 := lq 1; have q4_2_1 := mq 1; clear lq mq; have lq := fun o => c4 (v2.heap.size) o (by first | (simp; done) | (simp; omega) | omega); have mq := fun o => f4 (v2.heap.size) o (by first | (simp; done) | (simp; omega) | omega); have k4_v2_heap_size_0 := lq 0; have q4_v2_heap_size_0 := mq 0; have k4_v2_heap_size_1 := lq 1; have q4_v2_heap_size_1 := mq 1; clear lq mq; have lq := fun o => c4 (v3.heap.size) o (by first | (simp; done) | (simp; omega) | omega); have mq := fun o => f4 (v3.heap.size) o (by first | (simp; done) | (simp; omega) | omega); have k4_v3_heap_size_0 := lq 0; have q4_v3_heap_size_0 := mq 0; have k4_v3_heap_size_1 := lq 1; have q4_v3_heap_size_1 := mq 1; clear lq mq; have z4_0 : w.heap.size < v4.heap.size := (by (try simp at z4); omega); have z4_1 : w.heap.size + 1 < v4.heap.size := (by (try simp at z4); omega); have z4_2 : w.heap.size + 2 < v4.heap.size := (by (try simp at z4); omega); have z4_v2_heap_size : v2.heap.size < v4.heap.size := (by (try simp at z4); omega); have z4_v3_heap_size : v3.heap.size < v4.heap.size := (by (try simp at z4); omega); (try simp at z4); clear c4 f4; simp [go_sem, *] at k4_2_0 q4_2_0 k4_2_1 q4_2_1 k4_v2_heap_size_0 q4_v2_heap_size_0 k4_v2_heap_size_1 q4_v2_heap_size_1 k4_v3_heap_size_0 q4_v3_heap_size_0 k4_v3_heap_size_1 q4_v3_heap_size_1; (try clear k3_2_0); (try clear q3_2_0); (try clear k3_2_1); (try clear q3_2_1); (try clear k3_v1_heap_size_0); (try clear q3_v1_heap_size_0); (try clear k3_v1_heap_size_1); (try clear q3_v1_heap_size_1); (try clear k3_v2_heap_size_0); (try clear q3_v2_heap_size_0); (try clear k3_v2_heap_size_1); (try clear q3_v2_heap_size_1)
  cases hu : upB (mag n / mag d) (mag n % mag d) (mag d)
  · go_wp2_with fail; refine (TD.out _).mono ?_; rintro e v6 ⟨rfl, x6⟩; obtain ⟨c6, f6⟩ := x6.rules; have z6 := x6.size; have lq := fun o => c6 (w.heap.size + 2) o (by first | (simp; done) | (simp; omega) | omega); have mq := fun o => f6 (w.heap.size + 2) o (by first | (simp; done) | (simp; omega) | omega); have k6_2_0 := lq 0; have q6_2_0 := mq 0; have k6_2_1 := lq 1; have q6_2_1 := mq 1; clear lq mq; have z6_0 : w.heap.size < v6.heap.size := (by (try simp at z6); omega); have z6_1 : w.heap.size + 1 < v6.heap.size := (by (try simp at z6); omega); have z6_2 : w.heap.size + 2 < v6.heap.size := (by (try simp at z6); omega); (try simp at z6); clear c6 f6; simp [go_sem, *] at k6_2_0 q6_2_0 k6_2_1 q6_2_1; (try clear k4_2_0); (try clear q4_2_0); (try clear k4_2_1); (try clear q4_2_1); (try clear k4_v2_heap_size_0); (try clear q4_v2_heap_size_0); (try clear k4_v2_heap_size_1); (try clear q4_v2_heap_size_1); (try clear k4_v3_heap_size_0); (try clear q4_v3_heap_size_0); (try clear k4_v3_heap_size_1); (try clear q4_v3_heap_size_1)
    go_wp2
    simp [bodyPost, results, Tryz.results287, go_sem, *]
    rw [rdiv, ED.out hu]
    exact ⟨⟨rfl, rfl⟩, Ext.q⟩
  · go_wp2_with fail; refine (SN.out _).mono ?_; rintro e v5 ⟨rfl, x5⟩; obtain ⟨c5, f5⟩ := x5.rules; have z5 := x5.size; have lq := fun o => c5 (w.heap.size + 2) o (by first | (simp; done) | (simp; omega) | omega); have mq := fun o => f5 (w.heap.size + 2) o (by first | (simp; done) | (simp; omega) | omega); have k5_2_0 := lq 0; have q5_2_0 := mq 0; have k5_2_1 := lq 1; have q5_2_1 := mq 1; clear lq mq; have lq := fun o => c5 (v3.heap.size) o (by first | (simp; done) | (simp; omega) | omega); have mq := fun o => f5 (v3.heap.size) o (by first | (simp; done) | (simp; omega) | omega); have k5_v3_heap_size_0 := lq 0; have q5_v3_heap_size_0 := mq 0; have k5_v3_heap_size_1 := lq 1; have q5_v3_heap_size_1 := mq 1; clear lq mq; have z5_0 : w.heap.size < v5.heap.size := (by (try simp at z5); omega); have z5_1 : w.heap.size + 1 < v5.heap.size := (by (try simp at z5); omega); have z5_2 : w.heap.size + 2 < v5.heap.size := (by (try simp at z5); omega); have z5_v3_heap_size : v3.heap.size < v5.heap.size := (by (try simp at z5); omega); (try simp at z5); clear c5 f5; simp [go_sem, *] at k5_2_0 q5_2_0 k5_2_1 q5_2_1 k5_v3_heap_size_0 q5_v3_heap_size_0 k5_v3_heap_size_1 q5_v3_heap_size_1; (try clear k4_2_0); (try clear q4_2_0); (try clear k4_2_1); (try clear q4_2_1); (try clear k4_v2_heap_size_0); (try clear q4_v2_heap_size_0); (try clear k4_v2_heap_size_1); (try clear q4_v2_heap_size_1); (try clear k4_v3_heap_size_0); (try clear q4_v3_heap_size_0); (try clear k4_v3_heap_size_1); (try clear q4_v3_heap_size_1)
    go_wp2_with fail; refine (TU.out _).mono ?_; rintro e v6 ⟨rfl, x6⟩; obtain ⟨c6, f6⟩ := x6.rules; have z6 := x6.size; have lq := fun o => c6 (w.heap.size + 2) o (by first | (simp; done) | (simp; omega) | omega); have mq := fun o => f6 (w.heap.size + 2) o (by first | (simp; done) | (simp; omega) | omega); have k6_2_0 := lq 0; have q6_2_0 := mq 0; have k6_2_1 := lq 1; have q6_2_1 := mq 1; clear lq mq; have z6_0 : w.heap.size < v6.heap.size := (by (try simp at z6); omega); have z6_1 : w.heap.size + 1 < v6.heap.size := (by (try simp at z6); omega); have z6_2 : w.heap.size + 2 < v6.heap.size := (by (try simp at z6); omega); (try simp at z6); clear c6 f6; simp [go_sem, *] at k6_2_0 q6_2_0 k6_2_1 q6_2_1; (try clear k5_2_0); (try clear q5_2_0); (try clear k5_2_1); (try clear q5_2_1); (try clear k5_v3_heap_size_0); (try clear q5_v3_heap_size_0); (try clear k5_v3_heap_size_1); (try clear q5_v3_heap_size_1)
    go_wp2
    simp [bodyPost, results, Tryz.results287, go_sem, *]
    rw [rdiv, EU.out hu]
    exact ⟨⟨rfl, rfl⟩, Ext.q⟩
/-- wide.Round: n / d, d an int64 that is not 0, n with room to spare. -/
theorem round_any (n d : Int) (w : World) (hm : mag n < 85070591730234615865843651857942052864) (d1 : -9223372036854775808 ≤ d) (d2 : d < 9223372036854775808) (d0 : d ≠ 0) :
    Calls Tryz.prog 246 #[.agg #[.int .i64 (hi n), .int .u64 (lo n)], .agg #[.int .i64 (hi d), .int .u64 (lo d)]] w
      fun e w' => e = .returned (.tuple #[.agg #[.int .i64 (hi (rdiv n d)), .int .u64 (lo (rdiv n d))], .int .i64 0]) ∧ Ext w w' := by
  have hn : W128 n := w128_of_mag (by omega)
  have hd : W128 d := ⟨by omega, by omega⟩
  have m1 : 0 < mag d := by unfold mag; split <;> omega
  have m2 : mag d < 18446744073709551616 := by unfold mag; split <;> omega
  have od := fun v => of_any d v hd
  have z1 : hi (mag d) = 0 := by unfold hi; omega
  have z2 : lo (mag d) = mag d := by unfold lo; omega
  rw [z1, z2] at od
  have C : ∀ v, Calls Tryz.prog 287 #[.agg #[.int .i64 (hi n), .int .u64 (lo n)], .agg #[.int .i64 (hi d), .int .u64 (lo d)], .func (.func 288) #[] #[]] v
      fun e w' => e = .returned (.tuple #[.agg #[.int .i64 (hi (rdiv n d)), .int .u64 (lo (rdiv n d))], .int .i64 0]) ∧ Ext v w' := by
    intro v
    rcases Int.lt_or_le d 0 with h | h
    · exact over_core1 n d (hi d) (lo d) v hn hm m1 m2 (by unfold hi; omega) od
    · have y1 : hi d = 0 := by unfold hi; omega
      rw [y1] at od ⊢
      exact over_core0 n d (lo d) v hn hm m1 m2 (by unfold lo; omega) od
  have C' := Lib.hid C
  clear C od z1 z2 m1 m2 hd hn hm
  go_enter Tryz.func246, Tryz.ntmps246
  go_wp2_with fail; refine (C'.out _).mono ?_; rintro e v1 ⟨rfl, x1⟩; obtain ⟨c1, f1⟩ := x1.rules; have z1 := x1.size; have lq := fun o => c1 (w.heap.size + 2) o (by first | (simp; done) | (simp; omega) | omega); have mq := fun o => f1 (w.heap.size + 2) o (by first | (simp; done) | (simp; omega) | omega); have k1_2_0 := lq 0; have q1_2_0 := mq 0; have k1_2_1 := lq 1; have q1_2_1 := mq 1; clear lq mq; have z1_0 : w.heap.size < v1.heap.size := (by (try simp at z1); omega); have z1_1 : w.heap.size + 1 < v1.heap.size := (by (try simp at z1); omega); have z1_2 : w.heap.size + 2 < v1.heap.size := (by (try simp at z1); omega); (try simp at z1); clear c1 f1; simp [go_sem, *] at k1_2_0 q1_2_0 k1_2_1 q1_2_1
  go_wp2
  simp [bodyPost, results, Tryz.results246, go_sem, *]
  exact Ext.q
end Go.Proofs.YtkegefnpmijfiaaGreat
