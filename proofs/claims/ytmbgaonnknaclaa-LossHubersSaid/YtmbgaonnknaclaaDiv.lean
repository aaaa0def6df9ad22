/- fx: Div, Ratio, Shifted, Close; what they tell. -/
import Derived.Test.YtmbgaonnknaclaaQuot
namespace Go.Proofs.Ytmbgaonnknaclaa
open Go.RowKit
theorem over_0 (a f : Int) (w : World) :
    Calls Try.prog 191 #[.agg #[.int .i64 a, .int .i64 0, .int .i64 f]] w fun e w' => e = .returned (.tuple #[.int .i64 0, .int .i64 4]) ∧ Ext w w' := by
  go_enter Try.func191, Try.ntmps191
  go_wp2
  go_ret2
  exact ⟨rfl, (by repeat (first | with_reducible exact Ext.refl _ | with_reducible apply Ext.drew | with_reducible apply Ext.drewN | with_reducible apply Ext.alloc | ((with_reducible refine Ext.setCell ?_ ?_ _); rotate_left; focus (first | (simp; done) | (simp; omega) | omega)) | with_reducible refine Ext.tr ?_ x1 | with_reducible refine Ext.tr ?_ x2 | with_reducible refine Ext.tr ?_ hx | with_reducible assumption))⟩
/-- What a quotient is: its word, its error. -/
def dv (a b f : Int) : Int := if b = 0 then 0 else wv (rdiv (a * p2 f) b)
def de (a b f : Int) : Int := if b = 0 then 4 else we (rdiv (a * p2 f) b)
theorem dv_ok {a b f : Int} (h : b ≠ 0) : dv a b f = wv (rdiv (a * p2 f) b) := if_neg h
theorem de_ok {a b f : Int} (h : b ≠ 0) : de a b f = we (rdiv (a * p2 f) b) := if_neg h
theorem over_any' (a b f : Int) (w : World) (ha : Wd a) (hb : Wd b) (f1 : 0 ≤ f) (f2 : f ≤ 32) :
    Calls Try.prog 191 #[.agg #[.int .i64 a, .int .i64 b, .int .i64 f]] w fun e w' => e = .returned (.tuple #[.int .i64 (dv a b f), .int .i64 (de a b f)]) ∧ Ext w w' := by
  by_cases h : b = 0
  · subst h; exact over_0 a f w
  · rw [dv_ok h, de_ok h]; exact over_any a b f w ha hb h f1 f2
theorem Div_any (a b f : Int) (w : World) (ha : Wd a) (hb : Wd b) (hf : gdF f = true) :
    Calls Try.prog 151 #[.int .i64 a, .int .i64 b, .int .i64 f] w fun e w' => e = .returned (.tuple #[.int .i64 (dv a b f), .int .i64 (de a b f)]) ∧ Ext w w' := by
  obtain ⟨f1, f2⟩ := gdF_iff.1 hf
  have R := Lib.hid (fun v => reckon_ok 3 a b f 191 _ v ha.g hb.g hf _ _ rfl way_3 (enters_of Try.func191 (by kernel_rfl) rfl) (fun u => over_any' a b f u ha hb (by omega) f2))
  clear hf
  go_enter Try.func151, Try.ntmps151
  go_wp2_with fail; refine (R.out _).mono ?_; rintro e v1 ⟨rfl, x1⟩; obtain ⟨c1, f1⟩ := x1.rules; have z1 := x1.size
  go_wp2
  go_ret2
  exact ⟨rfl, (by repeat (first | with_reducible exact Ext.refl _ | with_reducible apply Ext.drew | with_reducible apply Ext.drewN | with_reducible apply Ext.alloc | ((with_reducible refine Ext.setCell ?_ ?_ _); rotate_left; focus (first | (simp; done) | (simp; omega) | omega)) | with_reducible refine Ext.tr ?_ x1 | with_reducible refine Ext.tr ?_ x2 | with_reducible refine Ext.tr ?_ hx | with_reducible assumption))⟩
theorem Shifted_any (x n : Int) (w : World) (hx : W128 x) (hn : 0 ≤ n) (hn2 : n ≤ 126) :
    Calls Try.prog 194 #[.agg #[.int .i64 (hi x), .int .u64 (lo x)], .int .i64 n] w fun e w' => e = .returned (.tuple #[.int .i64 (wv (near x (p2 n))), .int .i64 (we (near x (p2 n)))]) ∧ Ext w w' := by
  have H := Lib.hid hx
  clear hx
  go_enter Try.func194, Try.ntmps194
  go_wp2_with fail; refine (shift_any _ _ _ H.out hn hn2).mono ?_; rintro e v1 ⟨rfl, x1⟩; obtain ⟨c1, f1⟩ := x1.rules; have z1 := x1.size
  go_wp2_with fail; refine (narrow_any _ _).mono ?_; rintro e v2 ⟨rfl, x2⟩; obtain ⟨c2, f2⟩ := x2.rules; have z2 := x2.size
  go_wp2
  go_ret2
  exact ⟨rfl, (by repeat (first | with_reducible exact Ext.refl _ | with_reducible apply Ext.drew | with_reducible apply Ext.drewN | with_reducible apply Ext.alloc | ((with_reducible refine Ext.setCell ?_ ?_ _); rotate_left; focus (first | (simp; done) | (simp; omega) | omega)) | with_reducible refine Ext.tr ?_ x1 | with_reducible refine Ext.tr ?_ x2 | with_reducible refine Ext.tr ?_ hx | with_reducible assumption))⟩
theorem near0_mul (a d : Int) (hd : 0 < d) : near0 (a * d) d = a := by
  have e1 : a * d % d = 0 := Int.mul_emod_left a d
  have e2 : a * d / d = a := Int.mul_ediv_cancel a (by omega)
  unfold near0
  rw [e1, e2, if_neg (by omega)]
theorem near_mul (a d : Int) (hd : 0 < d) : near (a * d) d = a := by
  unfold near
  split
  · rw [← Int.neg_mul, near0_mul _ _ hd, Int.neg_neg]
  · exact near0_mul a d hd
theorem near0_scale (m e k : Int) (hk : 0 < k) : near0 (m * k) (e * k) = near0 m e := by
  have e1 : m * k % (e * k) = m % e * k := by rw [Int.mul_comm m, Int.mul_comm e, Int.mul_emod_mul_of_pos _ _ hk, Int.mul_comm]
  have e2 : m * k / (e * k) = m / e := Int.mul_ediv_mul_of_pos_left m e hk
  unfold near0
  rw [e1, e2, ← Int.sub_mul]
  have i1 : (e - m % e) * k < m % e * k ↔ e - m % e < m % e := Int.mul_lt_mul_right hk
  have i2 : (e - m % e) * k = m % e * k ↔ e - m % e = m % e := Int.mul_eq_mul_right_iff (by omega)
  simp only [i1, i2]
theorem mag_mul (a k : Int) (hk : 0 < k) : mag (a * k) = mag a * k ∧ decide (a * k < 0) = decide (a < 0) := by
  unfold mag
  rcases Int.lt_or_le a 0 with h | h
  · have := Int.mul_neg_of_neg_of_pos h hk
    rw [if_pos h, if_pos this, Int.neg_mul]
    simp [h, this]
  · have := Int.mul_nonneg h (Int.le_of_lt hk)
    rw [if_neg (by omega), if_neg (by omega)]
    exact ⟨rfl, by simp; omega⟩
theorem rdiv_scale (n d k : Int) (hk : 0 < k) : rdiv (n * k) (d * k) = rdiv n d := by
  unfold rdiv
  rw [(mag_mul n k hk).1, (mag_mul n k hk).2, (mag_mul d k hk).1, (mag_mul d k hk).2, near0_scale _ _ _ hk]
theorem rdiv_neg (n d : Int) : rdiv (-n) d = -rdiv n d := by
  have m : mag (-n) = mag n := by unfold mag; split <;> split <;> omega
  unfold rdiv
  rw [m]
  rcases Int.lt_trichotomy n 0 with h | h | h
  · have e1 : decide (n < 0) = true := by simp [h]
    have e2 : decide (-n < 0) = false := by simp; omega
    rw [e1, e2]; cases decide (d < 0) <;> simp [sg]
  · subst h
    have e : near0 (mag 0) (mag d) = 0 := by
      unfold near0 mag
      simp
      omega
    rw [e]; simp [sg]
  · have e1 : decide (n < 0) = false := by simp; omega
    have e2 : decide (-n < 0) = true := by simp; omega
    rw [e1, e2]; cases decide (d < 0) <;> simp [sg]
theorem dv_scale (n d k f : Int) (hk : 0 < k) : dv (n * k) (d * k) f = dv n d f ∧ de (n * k) (d * k) f = de n d f := by
  by_cases h : d = 0
  · subst h; simp [dv, de]
  · have h' : d * k ≠ 0 := Int.mul_ne_zero h (by omega)
    rw [dv_ok h, de_ok h, dv_ok h', de_ok h', Int.mul_right_comm, rdiv_scale _ _ _ hk]
    exact ⟨rfl, rfl⟩
theorem dv_neg (n d f : Int) (h : d ≠ 0) : dv (-n) d f = -dv n d f ∧ de (-n) d f = de n d f := by
  rw [dv_ok h, de_ok h, dv_ok h, de_ok h, Int.neg_mul, rdiv_neg, wv_neg, we_neg]
  exact ⟨rfl, rfl⟩
end Go.Proofs.Ytmbgaonnknaclaa
