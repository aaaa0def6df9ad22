/- wide.Mul. fx: Shifted by fewer than 64 bits, products. -/
import Derived.Test.YtjmecongccjcgaaShift
import Derived.Test.YtjmecongccjcgaaFx
namespace Go.Proofs.Ytjmecongccjcgaa
open Go.RowKit
theorem Mul_wide (a b : Int) (w : World) (h1 : -9223372036854775808 ≤ a) (h2 : a < 9223372036854775808) (h3 : -9223372036854775808 ≤ b) (h4 : b < 9223372036854775808) (hab : mag (a * b) < 170141183460469231731687303715884105728) :
    Calls Try.prog 139 #[.int .i64 a, .int .i64 b] w fun e w' => e = .returned (.agg #[.int .i64 (hi (a * b)), .int .u64 (lo (a * b))]) ∧ Ext w w' := by
  have e1 : mag a * mag b = mag (a * b) := by
    unfold mag
    rcases Int.lt_or_le a 0 with ha | ha <;> rcases Int.lt_or_le b 0 with hb | hb
    · rw [if_pos ha, if_pos hb, if_neg (by have := Int.mul_pos_of_neg_of_neg ha hb; omega), Int.neg_mul_neg]
    · rw [if_pos ha, if_neg (by omega)]
      rcases (Int.lt_or_eq_of_le hb).symm with h0 | h0
      · subst h0; simp
      · rw [if_pos (Int.mul_neg_of_neg_of_pos ha h0), Int.neg_mul]
    · rw [if_neg (by omega), if_pos hb]
      rcases (Int.lt_or_eq_of_le ha).symm with h0 | h0
      · subst h0; simp
      · rw [if_pos (Int.mul_neg_of_pos_of_neg h0 hb), Int.mul_neg]
    · rw [if_neg (by omega), if_neg (by omega), if_neg (by have := Int.mul_nonneg ha hb; omega)]
  have e2 : sg (decide (a < 0) != decide (b < 0)) (mag (a * b)) = a * b := by
    unfold mag sg
    rcases Int.lt_or_le a 0 with ha | ha <;> rcases Int.lt_or_le b 0 with hb | hb
    · have := Int.mul_pos_of_neg_of_neg ha hb
      simp [ha, hb]; omega
    · rcases (Int.lt_or_eq_of_le hb).symm with h0 | h0
      · subst h0; simp
      · have := Int.mul_neg_of_neg_of_pos ha h0
        have hb' : ¬ b < 0 := by omega
        simp [ha, hb']; omega
    · rcases (Int.lt_or_eq_of_le ha).symm with h0 | h0
      · subst h0; simp
      · have := Int.mul_neg_of_pos_of_neg h0 hb
        have ha' : ¬ a < 0 := by omega
        simp [ha', hb]; omega
    · have := Int.mul_nonneg ha hb
      have ha' : ¬ a < 0 := by omega
      have hb' : ¬ b < 0 := by omega
      simp [ha', hb']; omega
  have m0 : 0 ≤ mag (a * b) := by unfold mag; split <;> omega
  have ma : 0 ≤ mag a ∧ mag a < 18446744073709551616 := by unfold mag; split <;> omega
  have mb : 0 ≤ mag b ∧ mag b < 18446744073709551616 := by unfold mag; split <;> omega
  have A1 := fun v => abs_any a v h1 (by omega)
  have A2 := fun v => abs_any b v h3 (by omega)
  have M := fun v => mul64_any (mag a) (mag b) v ma.1 ma.2 mb.1 mb.2
  rw [e1] at M
  have T := fun v => told_ok (decide (a < 0) != decide (b < 0)) (mag (a * b)) v ⟨m0, hab⟩
  rw [e2] at T
  have M' := Lib.hid M
  have T' := Lib.hid T
  have B1 := Lib.hid A1
  have B2 := Lib.hid A2
  clear A1 A2 M T e1 e2 hab
  go_enter Try.func139, Try.ntmps139
  go_wp2_with fail; refine (B1.out _).mono ?_; rintro e w' ⟨rfl, rfl⟩
  go_wp2_with fail; refine (B2.out _).mono ?_; rintro e w' ⟨rfl, rfl⟩
  go_wp2_with fail; refine (M'.out _).mono ?_; rintro e w' ⟨rfl, rfl⟩
  go_wp2_with fail; refine (T'.out _).mono ?_; rintro e v1 ⟨rfl, x1⟩; obtain ⟨c1, f1⟩ := x1.rules; have z1 := x1.size; have k1_0_0 := c1 (w.heap.size) 0 (by first | (simp; done) | (simp; omega) | omega); have q1_0_0 := f1 (w.heap.size) 0 (by first | (simp; done) | (simp; omega) | omega); have k1_0_1 := c1 (w.heap.size) 1 (by first | (simp; done) | (simp; omega) | omega); have q1_0_1 := f1 (w.heap.size) 1 (by first | (simp; done) | (simp; omega) | omega); have z1_0 : w.heap.size < v1.heap.size := (by (try simp at z1); omega); (try simp at z1); clear c1 f1; simp [go_sem, *] at k1_0_0 q1_0_0 k1_0_1 q1_0_1
  go_wp2
  simp [bodyPost, results, Try.results139, go_sem, *]
  all_goals exact (by repeat (first | with_reducible exact Ext.refl _ | with_reducible apply Ext.drew | with_reducible apply Ext.drewN | with_reducible apply Ext.alloc | ((with_reducible refine Ext.setCell ?_ ?_ _); rotate_left; focus (first | (simp; done) | (simp; omega) | omega)) | with_reducible refine Ext.tr ?_ x1 | with_reducible refine Ext.tr ?_ x2 | with_reducible refine Ext.tr ?_ hx | with_reducible assumption))
end Go.Proofs.Ytjmecongccjcgaa
namespace Go.Proofs.Ytjmecongccjcgaa
open Go.RowKit
theorem shifted_lo (x n : Int) (w : World) (hx : W128 x) (hn : 1 ≤ n) (hn2 : n < 64) :
    Calls Try.prog 138 #[.agg #[.int .i64 (hi x), .int .u64 (lo x)], .int .i64 n] w fun e w' => e = .returned (.tuple #[.int .i64 (wv (near x (p2 n))), .int .i64 (we (near x (p2 n)))]) ∧ Ext w w' := by
  have H := Lib.hid hx
  clear hx
  go_enter Try.func138, Try.ntmps138
  go_wp2_with fail; refine (shift_lo _ _ _ H.out hn hn2).mono ?_; rintro e v1 ⟨rfl, x1⟩; obtain ⟨c1, f1⟩ := x1.rules; have z1 := x1.size
  go_wp2_with fail; refine (narrow_any _ _).mono ?_; rintro e v2 ⟨rfl, x2⟩; obtain ⟨c2, f2⟩ := x2.rules; have z2 := x2.size
  go_wp2
  go_ret2
  exact ⟨rfl, (by repeat (first | with_reducible exact Ext.refl _ | with_reducible apply Ext.drew | with_reducible apply Ext.drewN | with_reducible apply Ext.alloc | ((with_reducible refine Ext.setCell ?_ ?_ _); rotate_left; focus (first | (simp; done) | (simp; omega) | omega)) | with_reducible refine Ext.tr ?_ x1 | with_reducible refine Ext.tr ?_ x2 | with_reducible refine Ext.tr ?_ hx | with_reducible assumption))⟩
/-- The product of two words has a sign and fewer than 95 bits. -/
theorem prod_bd {a b : Int} (ha : -140737488355328 < a) (ha' : a < 140737488355328) (hb : -140737488355328 < b) (hb' : b < 140737488355328) : mag (a * b) < 19807040628566084398385987584 := by
  have key : ∀ x y : Int, 0 ≤ x → x < 140737488355328 → 0 ≤ y → y < 140737488355328 → 0 ≤ x * y ∧ x * y < 19807040628566084398385987584 := by
    intro x y h1 h2 h3 h4
    refine ⟨Int.mul_nonneg h1 h3, ?_⟩
    have := Int.mul_le_mul_of_nonneg_right (show x ≤ 140737488355327 by omega) h3
    omega
  unfold mag
  rcases Int.lt_or_le a 0 with h | h <;> rcases Int.lt_or_le b 0 with k | k
  · have := key (-a) (-b) (by omega) (by omega) (by omega) (by omega)
    rw [Int.neg_mul_neg] at this; split <;> omega
  · have := key (-a) b (by omega) (by omega) (by omega) (by omega)
    rw [Int.neg_mul] at this; split <;> omega
  · have := key a (-b) (by omega) (by omega) (by omega) (by omega)
    rw [Int.mul_neg] at this; split <;> omega
  · have := key a b (by omega) (by omega) (by omega) (by omega)
    split <;> omega
theorem w128_of_mag {x : Int} (h : mag x < 170141183460469231731687303715884105728) : W128 x := by
  unfold mag at h
  constructor <;> (split at h <;> omega)
theorem times_any (a b f : Int) (w : World) (ha : -140737488355328 < a) (ha' : a < 140737488355328) (hb : -140737488355328 < b) (hb' : b < 140737488355328) (h8 : 8 ≤ f) (h32 : f ≤ 32) :
    Calls Try.prog 133 #[.agg #[.int .i64 a, .int .i64 b, .int .i64 f]] w fun e w' => e = .returned (.tuple #[.int .i64 (wv (near (a * b) (p2 f))), .int .i64 (we (near (a * b) (p2 f)))]) ∧ Ext w w' := by
  have P := prod_bd ha ha' hb hb'
  have M := Lib.hid (fun v => Mul_wide a b v (by omega) (by omega) (by omega) (by omega) (by omega))
  have S := Lib.hid (fun v => shifted_lo (a * b) f v (w128_of_mag (by omega)) (by omega) (by omega))
  clear P
  go_enter Try.func133, Try.ntmps133
  go_wp2_with fail
  go_region_held3 (fun w' => w'.cell? ⟨w.heap.size, 0, none⟩ = some (.int .i64 a) ∧ w'.cell? ⟨w.heap.size, 1, none⟩ = some (.int .i64 b) ∧ w'.cell? ⟨w.heap.size, 2, none⟩ = some (.int .i64 f) ∧ w.heap.size < w'.heap.size ∧ Ext w w')
    (refine ⟨?_, ?_, ?_, ?_, ?_⟩ <;> first | (simp [go_sem, *]; done) | omega | (simp at z1; omega) | (simp at z2; omega) | (simp at z3; omega) | (simp at z4; omega) | exact (by repeat (first | with_reducible exact Ext.refl _ | with_reducible apply Ext.drew | with_reducible apply Ext.drewN | with_reducible apply Ext.alloc | ((with_reducible refine Ext.setCell ?_ ?_ _); rotate_left; focus (first | (simp; done) | (simp; omega) | omega)) | with_reducible refine Ext.tr ?_ x1 | with_reducible refine Ext.tr ?_ x2 | with_reducible refine Ext.tr ?_ hx | with_reducible assumption)))
    (first | (go_at_call 139; refine (M.out _).mono ?_; rintro e v1 ⟨rfl, x1⟩; obtain ⟨c1, f1⟩ := x1.rules; have z1 := x1.size) | (go_at_call 138; refine (S.out _).mono ?_; rintro e v2 ⟨rfl, x2⟩; obtain ⟨c2, f2⟩ := x2.rules; have z2 := x2.size))
  all_goals go_wp2
  all_goals go_ret2
  all_goals exact ⟨rfl, (by repeat (first | with_reducible exact Ext.refl _ | with_reducible apply Ext.drew | with_reducible apply Ext.drewN | with_reducible apply Ext.alloc | ((with_reducible refine Ext.setCell ?_ ?_ _); rotate_left; focus (first | (simp; done) | (simp; omega) | omega)) | with_reducible refine Ext.tr ?_ x1 | with_reducible refine Ext.tr ?_ x2 | with_reducible refine Ext.tr ?_ hx | with_reducible assumption))⟩
end Go.Proofs.Ytjmecongccjcgaa
