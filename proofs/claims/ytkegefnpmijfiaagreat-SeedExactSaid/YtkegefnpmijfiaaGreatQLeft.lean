/- wide.Left; the arithmetic of shifts by a variable number of bits. -/
import Derived.Test.YtkegefnpmijfiaaGreatQFx
import Derived.Test.YtkegefnpmijfiaaGreatQLen64
import Derived.Laws.ShiftsVar
import Derived.Laws.ShiftsVarLaws
namespace Go.Proofs.YtkegefnpmijfiaaGreat
open Go.RowKit
theorem of_any (x : Int) (w : World) (hx : W128 x) :
    Calls Tryz.prog 173 #[.agg #[.int .i64 (hi x), .int .u64 (lo x)]] w fun e w' => e = .returned (.tuple #[.bool (decide (x < 0)), .agg #[.int .u64 (hi (mag x)), .int .u64 (lo (mag x))]]) ∧ Ext w w' := by
  by_cases h : x < 0
  · simp only [mag, h, if_true, decide_true]
    exact of_neg x w hx h
  · simp only [mag, h, if_false, decide_false]
    exact of_pos x w hx (by omega)
theorem or_disj (a b : Int) (k : Nat) (h1 : 0 ≤ a) (h2 : 0 ≤ b) (h3 : b < 2 ^ k) (h4 : a % 2 ^ k = 0) (h5 : a < 18446744073709551616) (h6 : b < 18446744073709551616) : bits .or .u64 a b = a + b := by
  obtain ⟨a, rfl⟩ := Int.eq_ofNat_of_zero_le h1
  obtain ⟨b, rfl⟩ := Int.eq_ofNat_of_zero_le h2
  rw [u64_or_nat a b (by omega) (by omega), nat_join k a b (by exact_mod_cast h4) (by exact_mod_cast h3)]
  exact Int.natCast_add a b
theorem pow_split (n : Nat) (hn : n ≤ 64) : (2 : Int) ^ n * 2 ^ (64 - n) = 18446744073709551616 := by
  rw [← Int.pow_add, Nat.add_sub_cancel' hn]; rfl
theorem pow_pos' (n : Nat) : (0 : Int) < 2 ^ n := Int.pow_pos (by omega)
/-- The two halves of m 2^n, as the code makes them, n below 64. -/
theorem shl_hi (m n : Int) (h0 : 0 ≤ m) (hn : 0 ≤ n) (hn2 : n < 64) (hm : m * 2 ^ n.toNat < 340282366920938463463374607431768211456) :
    bits .or .u64 (IntKind.u64.wrap (hi m * 2 ^ n.toNat)) (lo m / 2 ^ (64 - n).toNat) = hi (m * 2 ^ n.toNat) ∧ IntKind.u64.wrap (lo m * 2 ^ n.toNat) = lo (m * 2 ^ n.toNat) := by
  obtain ⟨k, rfl⟩ := Int.eq_ofNat_of_zero_le hn
  have e : ((64 : Int) - (k : Int)).toNat = 64 - k := by omega
  rw [e, Int.toNat_natCast] at *
  have hk : k ≤ 64 := by omega
  have p := pow_split k hk
  have p1 := pow_pos' k
  have p2 := pow_pos' (64 - k)
  generalize hP : (2 : Int) ^ k = P at *
  generalize hQ : (2 : Int) ^ (64 - k) = Q at *
  have hl := hi_lo m
  have l0 := lo_nn m
  have l1 := lo_lt m
  have d := Int.mul_ediv_add_emod (lo m) Q
  have d0 := Int.emod_nonneg (lo m) (Int.ne_of_gt p2)
  have d1 := Int.emod_lt_of_pos (lo m) p2
  have hd0 : 0 ≤ lo m / Q := Int.ediv_nonneg l0 (Int.le_of_lt p2)
  have hd1 : lo m / Q < P := by
    apply Int.ediv_lt_of_lt_mul p2
    rw [p]; exact l1
  -- m P = (hi m P + lo m / Q) 2^64 + (lo m % Q) P
  have key : (hi m * P + lo m / Q) * 18446744073709551616 + lo m % Q * P = m * P := by
    have h1 : lo m * P = lo m / Q * 18446744073709551616 + lo m % Q * P := by
      have : lo m * P = (Q * (lo m / Q) + lo m % Q) * P := by rw [d]
      rw [this, Int.add_mul, Int.mul_right_comm, Int.mul_comm Q P, p, Int.mul_comm 18446744073709551616]
    have h2 : m * P = hi m * P * 18446744073709551616 + lo m * P := by
      have : m * P = (hi m * 18446744073709551616 + lo m) * P := by rw [hl]
      rw [this, Int.add_mul, Int.mul_right_comm]
    rw [h2, h1]
    generalize hi m * P = A
    generalize lo m / Q = B
    generalize lo m % Q * P = C
    omega
  have r0 : 0 ≤ lo m % Q * P := Int.mul_nonneg d0 (Int.le_of_lt p1)
  have r1 : lo m % Q * P < 18446744073709551616 := by
    rw [← p, Int.mul_comm P Q]
    exact Int.mul_lt_mul_of_pos_right d1 p1
  have hh0 : 0 ≤ hi m := by unfold hi; omega
  have hA : 0 ≤ hi m * P := Int.mul_nonneg hh0 (Int.le_of_lt p1)
  have hA2 : hi m * P < 18446744073709551616 := by
    generalize hi m * P = A at *
    generalize lo m / Q = B at *
    generalize lo m % Q * P = C at *
    omega
  constructor
  · rw [IntKind.wrap_u64, Int.emod_eq_of_lt hA hA2, or_disj (hi m * P) (lo m / Q) k hA hd0 (by rw [hP]; exact hd1) (by rw [hP]; exact Int.mul_emod_left _ _) hA2 (by
      have : P ≤ 18446744073709551616 := by
        rw [← p]
        have := Int.mul_le_mul_of_nonneg_left (show (1 : Int) ≤ Q by omega) (Int.le_of_lt p1)
        rwa [Int.mul_one] at this
      omega)]
    exact (hi_eq key r0 r1).symm
  · rw [IntKind.wrap_u64]
    have : lo m * P % 18446744073709551616 = m * P % 18446744073709551616 := by
      have h2 : m * P = lo m * P + 18446744073709551616 * (hi m * P) := by
        have : m * P = (hi m * 18446744073709551616 + lo m) * P := by rw [hl]
        rw [this, Int.add_mul, Int.mul_right_comm]
        generalize hi m * P = A
        omega
      rw [h2, Int.add_mul_emod_self_left]
    exact this
theorem lt_pow (a : Int) (n N : Nat) (hn : n ≤ N) (h : a * 2 ^ n < 2 ^ N) : a < 2 ^ (N - n) := by
  have e : (2 : Int) ^ N = 2 ^ (N - n) * 2 ^ n := by rw [← Int.pow_add, Nat.sub_add_cancel hn]
  rw [e] at h
  exact Int.lt_of_mul_lt_mul_right h (Int.le_of_lt (pow_pos' n))
/-- How many bits m has, m 2^n being below 2^127. -/
theorem length_lo (m n : Int) (hn : 0 ≤ n) (hn2 : n ≤ 126) (h : m * 2 ^ n.toNat < 170141183460469231731687303715884105728) (hz : hi m = 0) : blen (lo m) + n ≤ 128 := by
  obtain ⟨k, rfl⟩ := Int.eq_ofNat_of_zero_le hn
  rw [Int.toNat_natCast] at h
  have e : lo m = m := by have := hi_lo m; omega
  have l1 := lo_lt m
  rw [e] at l1 ⊢
  rcases Nat.lt_or_ge k 63 with hk | hk
  · have := blen_le m 64 (by omega) (by omega)
    omega
  · have := blen_le m (127 - k) (by omega) (lt_pow m k 127 (by omega) (by rw [show (2 : Int) ^ 127 = 170141183460469231731687303715884105728 from rfl]; exact h))
    omega
theorem length_hi (m n : Int) (hn : 0 ≤ n) (hm : 0 ≤ m) (h : m * 2 ^ n.toNat < 170141183460469231731687303715884105728) (hz : hi m ≠ 0) : n < 64 ∧ 64 + blen (hi m) + n ≤ 128 ∧ blen (hi m) ≤ 64 := by
  obtain ⟨k, rfl⟩ := Int.eq_ofNat_of_zero_le hn
  rw [Int.toNat_natCast] at h
  have hh : 0 ≤ hi m := by unfold hi; omega
  have h1 : hi m * 2 ^ k < 9223372036854775808 := by
    have a : hi m * 18446744073709551616 ≤ m := by have := hi_lo m; have := lo_nn m; omega
    have b := Int.mul_le_mul_of_nonneg_right a (Int.le_of_lt (pow_pos' k))
    rw [Int.mul_right_comm] at b
    generalize hi m * 2 ^ k = A at *
    omega
  have hk : k < 64 := by
    rcases Nat.lt_or_ge k 64 with hk | hk
    · exact hk
    · have p : (18446744073709551616 : Int) ≤ 2 ^ k := by
        have e : (2 : Int) ^ k = 2 ^ 64 * 2 ^ (k - 64) := by rw [← Int.pow_add, Nat.add_sub_cancel' hk]
        have q := pow_pos' (k - 64)
        rw [e]
        generalize (2 : Int) ^ (k - 64) = Q at *
        omega
      have q := Int.mul_le_mul_of_nonneg_right (show (1 : Int) ≤ hi m by omega) (Int.le_of_lt (pow_pos' k))
      generalize (2 : Int) ^ k = P at *
      generalize hi m * P = A at *
      omega
  have h2 := blen_le (hi m) (63 - k) (by omega) (lt_pow _ k 63 (by omega) (by rw [show (2 : Int) ^ 63 = 9223372036854775808 from rfl]; exact h1))
  omega
/-- m 2^n, n from 64 on: the upper half alone. -/
theorem shl_up (m n : Int) (hn : 64 ≤ n) (h0 : 0 ≤ m) (h : m * 2 ^ n.toNat < 340282366920938463463374607431768211456) (hz : hi m = 0) : IntKind.u64.wrap (lo m * 2 ^ (n - 64).toNat) = hi (m * 2 ^ n.toNat) ∧ (0 : Int) = lo (m * 2 ^ n.toNat) := by
  obtain ⟨k, rfl⟩ : ∃ k : Nat, n = 64 + k := ⟨(n - 64).toNat, by omega⟩
  have e1 : ((64 : Int) + k - 64).toNat = k := by omega
  have e2 : ((64 : Int) + k).toNat = 64 + k := by omega
  have e : lo m = m := by have := hi_lo m; omega
  rw [e2] at h ⊢
  rw [e1, e]
  have p : (2 : Int) ^ (64 + k) = 18446744073709551616 * 2 ^ k := by rw [Int.pow_add]; rfl
  rw [p, Int.mul_left_comm] at h ⊢
  have q := Int.mul_nonneg h0 (Int.le_of_lt (pow_pos' k))
  rw [IntKind.wrap_u64]
  generalize m * 2 ^ k = A at *
  unfold hi lo
  omega
set_option maxHeartbeats 2000000 in
/-- wide.Left: x 2^n, where it is a number of 128 bits with room to spare. -/
theorem left_ok (x n : Int) (w : World) (hx : W128 x) (hn : 0 ≤ n) (hn2 : n ≤ 126) (hb : mag x * 2 ^ n.toNat < 170141183460469231731687303715884105728) :
    Calls Tryz.prog 245 #[.agg #[.int .i64 (hi x), .int .u64 (lo x)], .int .i64 n] w fun e w' => e = .returned (.tuple #[.agg #[.int .i64 (hi (x * 2 ^ n.toNat)), .int .u64 (lo (x * 2 ^ n.toNat))], .int .i64 0]) ∧ Ext w w' := by
  have O := Lib.hid (fun v => of_any x v hx)
  have hm := hx.m
  have m0 : 0 ≤ mag x := hm.1
  have q := Int.mul_nonneg m0 (Int.le_of_lt (pow_pos' n.toNat))
  have T := fun v => told_ok (decide (x < 0)) (mag x * 2 ^ n.toNat) v ⟨q, hb⟩
  have e : sg (decide (x < 0)) (mag x * 2 ^ n.toNat) = x * 2 ^ n.toNat := by
    unfold mag sg; by_cases h : x < 0 <;> simp [h, Int.neg_mul]
  rw [e] at T
  obtain ⟨b1, b2⟩ := hm.b
  have a1 := lo_nn (mag x)
  have a2 := lo_lt (mag x)
  have l0 := blen_nn (lo (mag x))
  have l1 := blen_nn (hi (mag x))
  by_cases hz : hi (mag x) = 0
  · have hlen := length_lo (mag x) n hn hn2 hb hz
    have hl64 := blen_le (lo (mag x)) 64 (by omega) (by omega)
    have hz1 : (hi (mag x) == 0) = true := by simp [hz]
    by_cases h64 : n < 64
    · obtain ⟨s1, s2⟩ := shl_hi (mag x) n m0 hn h64 (by omega)
      rw [← s1, ← s2] at T
      have T' := Lib.hid T
      clear T s1 s2 q e hz hb hx hm
      have e1 : IntKind.i64.wrap (64 - n) = 64 - n := IntWalk.i64_in _ (by omega)
      have e2 : 0 ≤ 64 - n := by omega
      go_enter Tryz.func245, Tryz.ntmps245
      go_wp2_with (first
        | (go_at_call 173; refine (O.out _).mono ?_; rintro e v1 ⟨rfl, x1⟩; obtain ⟨c1, f1⟩ := x1.rules; have z1 := x1.size; have lq := fun o => c1 (w.heap.size) o (by first | (simp; done) | (simp; omega) | omega); have mq := fun o => f1 (w.heap.size) o (by first | (simp; done) | (simp; omega) | omega); have k1_0_0 := lq 0; have q1_0_0 := mq 0; have k1_0_1 := lq 1; have q1_0_1 := mq 1; clear lq mq; have lq := fun o => c1 (w.heap.size + 1) o (by first | (simp; done) | (simp; omega) | omega); have mq := fun o => f1 (w.heap.size + 1) o (by first | (simp; done) | (simp; omega) | omega); have k1_1_0 := lq 0; have q1_1_0 := mq 0; have k1_1_1 := lq 1; have q1_1_1 := mq 1; clear lq mq; have z1_0 : w.heap.size < v1.heap.size := (by (try simp at z1); omega); have z1_1 : w.heap.size + 1 < v1.heap.size := (by (try simp at z1); omega); (try simp at z1); clear c1 f1; simp [go_sem, *] at k1_0_0 q1_0_0 k1_0_1 q1_0_1 k1_1_0 q1_1_0 k1_1_1 q1_1_1)
        | (go_at_call 285; refine (len64_any _ _ (by omega) (by omega)).mono ?_; rintro e w' ⟨rfl, rfl⟩))
      go_region_held3 (fun w' => w'.cell? ⟨v1.heap.size, 0, none⟩ = some (.int .u64 (hi (mag x))) ∧ w'.cell? ⟨v1.heap.size, 1, none⟩ = some (.int .u64 (lo (mag x))) ∧ Ext w w')
        (refine ⟨?_, ?_, ?_⟩ <;> first | (simp [go_sem, *]; done) | exact Ext.q)
        (first | (go_at_call 286; refine (T'.out _).mono ?_; rintro e v2 ⟨rfl, x2⟩; obtain ⟨c2, f2⟩ := x2.rules; have z2 := x2.size))
      go_wp2
      simp [bodyPost, results, Tryz.results245, go_sem, *]
      all_goals exact Ext.q
    · obtain ⟨s1, s2⟩ := shl_up (mag x) n (by omega) m0 (by omega) hz
      rw [← s1, ← s2] at T
      have T' := Lib.hid T
      clear T s1 s2 q e hz hb hx hm
      have h64' : 64 ≤ n := by omega
      have e1 : IntKind.i64.wrap (n - 64) = n - 64 := IntWalk.i64_in _ (by omega)
      have e2 : 0 ≤ n - 64 := by omega
      go_enter Tryz.func245, Tryz.ntmps245
      go_wp2_with (first
        | (go_at_call 173; refine (O.out _).mono ?_; rintro e v1 ⟨rfl, x1⟩; obtain ⟨c1, f1⟩ := x1.rules; have z1 := x1.size; have lq := fun o => c1 (w.heap.size) o (by first | (simp; done) | (simp; omega) | omega); have mq := fun o => f1 (w.heap.size) o (by first | (simp; done) | (simp; omega) | omega); have k1_0_0 := lq 0; have q1_0_0 := mq 0; have k1_0_1 := lq 1; have q1_0_1 := mq 1; clear lq mq; have lq := fun o => c1 (w.heap.size + 1) o (by first | (simp; done) | (simp; omega) | omega); have mq := fun o => f1 (w.heap.size + 1) o (by first | (simp; done) | (simp; omega) | omega); have k1_1_0 := lq 0; have q1_1_0 := mq 0; have k1_1_1 := lq 1; have q1_1_1 := mq 1; clear lq mq; have z1_0 : w.heap.size < v1.heap.size := (by (try simp at z1); omega); have z1_1 : w.heap.size + 1 < v1.heap.size := (by (try simp at z1); omega); (try simp at z1); clear c1 f1; simp [go_sem, *] at k1_0_0 q1_0_0 k1_0_1 q1_0_1 k1_1_0 q1_1_0 k1_1_1 q1_1_1)
        | (go_at_call 285; refine (len64_any _ _ (by omega) (by omega)).mono ?_; rintro e w' ⟨rfl, rfl⟩)
        | (go_at_call 286; refine (T'.out _).mono ?_; rintro e v2 ⟨rfl, x2⟩; obtain ⟨c2, f2⟩ := x2.rules; have z2 := x2.size))
      simp [bodyPost, results, Tryz.results245, go_sem, *]
      all_goals exact Ext.q
  · obtain ⟨h64, hlen, hl64⟩ := length_hi (mag x) n hn m0 hb hz
    have hz1 : (hi (mag x) == 0) = false := by simp [hz]
    have hz2 : ¬ hi (mag x) = 0 := hz
    obtain ⟨s1, s2⟩ := shl_hi (mag x) n m0 hn h64 (by omega)
    rw [← s1, ← s2] at T
    have T' := Lib.hid T
    clear T s1 s2 q e hz hb hx hm
    have e1 : IntKind.i64.wrap (64 - n) = 64 - n := IntWalk.i64_in _ (by omega)
    have e2 : 0 ≤ 64 - n := by omega
    go_enter Tryz.func245, Tryz.ntmps245
    go_wp2_with (first
      | (go_at_call 173; refine (O.out _).mono ?_; rintro e v1 ⟨rfl, x1⟩; obtain ⟨c1, f1⟩ := x1.rules; have z1 := x1.size; have lq := fun o => c1 (w.heap.size) o (by first | (simp; done) | (simp; omega) | omega); have mq := fun o => f1 (w.heap.size) o (by first | (simp; done) | (simp; omega) | omega); have k1_0_0 := lq 0; have q1_0_0 := mq 0; have k1_0_1 := lq 1; have q1_0_1 := mq 1; clear lq mq; have lq := fun o => c1 (w.heap.size + 1) o (by first | (simp; done) | (simp; omega) | omega); have mq := fun o => f1 (w.heap.size + 1) o (by first | (simp; done) | (simp; omega) | omega); have k1_1_0 := lq 0; have q1_1_0 := mq 0; have k1_1_1 := lq 1; have q1_1_1 := mq 1; clear lq mq; have z1_0 : w.heap.size < v1.heap.size := (by (try simp at z1); omega); have z1_1 : w.heap.size + 1 < v1.heap.size := (by (try simp at z1); omega); (try simp at z1); clear c1 f1; simp [go_sem, *] at k1_0_0 q1_0_0 k1_0_1 q1_0_1 k1_1_0 q1_1_0 k1_1_1 q1_1_1)
      | (go_at_call 285; refine (len64_any _ _ (by omega) (by omega)).mono ?_; rintro e w' ⟨rfl, rfl⟩))
    go_region_held3 (fun w' => w'.cell? ⟨v1.heap.size, 0, none⟩ = some (.int .u64 (hi (mag x))) ∧ w'.cell? ⟨v1.heap.size, 1, none⟩ = some (.int .u64 (lo (mag x))) ∧ Ext w w')
      (refine ⟨?_, ?_, ?_⟩ <;> first | (simp [go_sem, *]; done) | exact Ext.q)
      (first | (go_at_call 286; refine (T'.out _).mono ?_; rintro e v2 ⟨rfl, x2⟩; obtain ⟨c2, f2⟩ := x2.rules; have z2 := x2.size))
    go_wp2
    simp [bodyPost, results, Tryz.results245, go_sem, *]
    all_goals exact Ext.q
end Go.Proofs.YtkegefnpmijfiaaGreat
