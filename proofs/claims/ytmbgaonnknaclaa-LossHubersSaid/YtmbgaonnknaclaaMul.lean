/- wide.Mul. -/
import Derived.Test.YtmbgaonnknaclaaShift
import Derived.Test.YtmbgaonnknaclaaFx
namespace Go.Proofs.Ytmbgaonnknaclaa
open Go.RowKit
theorem Mul_wide (a b : Int) (w : World) (h1 : -9223372036854775808 ≤ a) (h2 : a < 9223372036854775808) (h3 : -9223372036854775808 ≤ b) (h4 : b < 9223372036854775808) (hab : mag (a * b) < 170141183460469231731687303715884105728) :
    Calls Try.prog 64 #[.int .i64 a, .int .i64 b] w fun e w' => e = .returned (.agg #[.int .i64 (hi (a * b)), .int .u64 (lo (a * b))]) ∧ Ext w w' := by
  have e1 : mag a * mag b = mag (a * b) := by
    unfold mag
    rcases Int.lt_or_le a 0 with ha | ha <;> rcases Int.lt_or_le b 0 with hb | hb
    · rw [if_pos ha, if_pos hb, if_neg (by have := Int.mul_pos_of_neg_of_neg ha hb; omega), Int.neg_mul_neg]
    · rw [if_pos ha, if_neg (by omega)]
      rcases (Int.lt_or_eq_of_le hb).symm with h0 | h0
      · subst h0; simp
      · rw [if_pos (Int.mul_neg_of_neg_of_pos ha h0), Int.neg_mul]
    · rw [if_neg (by omega), if_pos hb]
      rcases (Int.lt_or_eq_of_le ha).symm with h0 | h0
      · subst h0; simp
      · rw [if_pos (Int.mul_neg_of_pos_of_neg h0 hb), Int.mul_neg]
    · rw [if_neg (by omega), if_neg (by omega), if_neg (by have := Int.mul_nonneg ha hb; omega)]
  have e2 : sg (decide (a < 0) != decide (b < 0)) (mag (a * b)) = a * b := by
    unfold mag sg
    rcases Int.lt_or_le a 0 with ha | ha <;> rcases Int.lt_or_le b 0 with hb | hb
    · have := Int.mul_pos_of_neg_of_neg ha hb
      simp [ha, hb]; omega
    · rcases (Int.lt_or_eq_of_le hb).symm with h0 | h0
      · subst h0; simp
      · have := Int.mul_neg_of_neg_of_pos ha h0
        have hb' : ¬ b < 0 := by omega
        simp [ha, hb']; omega
    · rcases (Int.lt_or_eq_of_le ha).symm with h0 | h0
      · subst h0; simp
      · have := Int.mul_neg_of_pos_of_neg h0 hb
        have ha' : ¬ a < 0 := by omega
        simp [ha', hb]; omega
    · have := Int.mul_nonneg ha hb
      have ha' : ¬ a < 0 := by omega
      have hb' : ¬ b < 0 := by omega
      simp [ha', hb']; omega
  have m0 : 0 ≤ mag (a * b) := by unfold mag; split <;> omega
  have ma : 0 ≤ mag a ∧ mag a < 18446744073709551616 := by unfold mag; split <;> omega
  have mb : 0 ≤ mag b ∧ mag b < 18446744073709551616 := by unfold mag; split <;> omega
  have A1 := fun v => abs_any a v h1 (by omega)
  have A2 := fun v => abs_any b v h3 (by omega)
  have M := fun v => mul64_any (mag a) (mag b) v ma.1 ma.2 mb.1 mb.2
  rw [e1] at M
  have T := fun v => told_ok (decide (a < 0) != decide (b < 0)) (mag (a * b)) v ⟨m0, hab⟩
  rw [e2] at T
  have M' := Lib.hid M
  have T' := Lib.hid T
  have B1 := Lib.hid A1
  have B2 := Lib.hid A2
  clear A1 A2 M T e1 e2 hab
  go_enter Try.func64, Try.ntmps64
  go_wp2_with fail; refine (B1.out _).mono ?_; rintro e w' ⟨rfl, rfl⟩
  go_wp2_with fail; refine (B2.out _).mono ?_; rintro e w' ⟨rfl, rfl⟩
  go_wp2_with fail; refine (M'.out _).mono ?_; rintro e w' ⟨rfl, rfl⟩
  go_wp2_with fail; refine (T'.out _).mono ?_; rintro e v1 ⟨rfl, x1⟩; obtain ⟨c1, f1⟩ := x1.rules; have z1 := x1.size; have k1_0_0 := c1 (w.heap.size) 0 (by first | (simp; done) | (simp; omega) | omega); have q1_0_0 := f1 (w.heap.size) 0 (by first | (simp; done) | (simp; omega) | omega); have k1_0_1 := c1 (w.heap.size) 1 (by first | (simp; done) | (simp; omega) | omega); have q1_0_1 := f1 (w.heap.size) 1 (by first | (simp; done) | (simp; omega) | omega); have z1_0 : w.heap.size < v1.heap.size := (by (try simp at z1); omega); (try simp at z1); clear c1 f1; simp [go_sem, *] at k1_0_0 q1_0_0 k1_0_1 q1_0_1
  go_wp2
  simp [bodyPost, results, Try.results64, go_sem, *]
  all_goals exact (by repeat (first | with_reducible exact Ext.refl _ | with_reducible apply Ext.drew | with_reducible apply Ext.drewN | with_reducible apply Ext.alloc | ((with_reducible refine Ext.setCell ?_ ?_ _); rotate_left; focus (first | (simp; done) | (simp; omega) | omega)) | with_reducible refine Ext.tr ?_ x1 | with_reducible assumption))
end Go.Proofs.Ytmbgaonnknaclaa
