/- What the laws of roots want of the references' comparisons. -/
import Derived.Test.YtielcbpjnjdlmaaPowers
import Derived.Test.YtielcbpjnjdlmaaInts2
namespace Go.Proofs.Ytielcbpjnjdlmaa
open Go.RowKit
/-- A product of a square and a number, against another number. -/
theorem recip_up {f a R : Int} (hn : NearRoot (p2 (3 * f)) a R) (f0 : 0 ≤ f) : 1 * p2 (3 * f + 2) ≤ (2 * R + 1) * (2 * R + 1) * a := by
  have e : p2 (3 * f + 2) = 4 * p2 (3 * f) := by
    unfold p2
    rw [show (3 * f + 2).toNat = (3 * f).toNat + 2 by omega, Int.pow_add]
    omega
  have := hn.2.2.1
  omega
theorem recip_low {f a R : Int} (hn : NearRoot (p2 (3 * f)) a R) (f0 : 0 ≤ f) (R0 : 0 < R) : (2 * R - 1) * (2 * R - 1) * a ≤ 1 * p2 (3 * f + 2) := by
  have e : p2 (3 * f + 2) = 4 * p2 (3 * f) := by
    unfold p2
    rw [show (3 * f + 2).toNat = (3 * f).toNat + 2 by omega, Int.pow_add]
    omega
  have := hn.2.1 R0
  omega
theorem recip_most {f a R : Int} (hn : NearRoot (p2 (3 * f)) a R) (f0 : 0 ≤ f) (a0 : 0 < a) (hR : gd R = false) : (1 * p2 48 - 1) * (1 * p2 48 - 1) * a ≤ 1 * p2 (3 * f + 2) := by
  have R0 := hn.1
  have h : 140737488355328 ≤ R := by simp [gd] at hR; omega
  have l := recip_low hn f0 (by omega)
  have e : 1 * p2 48 - 1 = 281474976710655 := by decide
  rw [e]
  have := Int.mul_le_mul_of_nonneg_right (sq_le (a := 281474976710655) (b := 2 * R - 1) (by omega) (by omega)) (Int.le_of_lt a0)
  omega
theorem cmp_up {x y : Int} (h : y ≤ x) : decide (cmpI x y < 0) = false := by
  unfold cmpI; rw [if_neg (by omega)]; split <;> simp
theorem cmp_low {x y : Int} (h : x ≤ y) : decide (0 < cmpI x y) = false := by
  unfold cmpI; split
  · simp
  · rw [if_neg (by omega)]; simp
theorem cmp_some_up {X N : Int} {L : Nat} (h : N ≤ X) (hL : L ≤ 400000) : ∃ c : Int, decide (c < 0) = false ∧ ∀ u p q, IntAt u p X L → IntAt u q N L → Calls Try.prog 44 #[p, q] u fun e w' => e = .returned (.int .i64 c) ∧ Ext u w' :=
  ⟨_, cmp_up h, fun _ _ _ h1 h2 => Cmp_ref h1 h2 hL⟩
theorem cmp_some_low {X N : Int} {L : Nat} (h : X ≤ N) (hL : L ≤ 400000) : ∃ c : Int, decide (0 < c) = false ∧ ∀ u p q, IntAt u p X L → IntAt u q N L → Calls Try.prog 44 #[p, q] u fun e w' => e = .returned (.int .i64 c) ∧ Ext u w' :=
  ⟨_, cmp_low h, fun _ _ _ h1 h2 => Cmp_ref h1 h2 hL⟩
theorem sq_up' {f a r : Int} (hn : NearRoot (a * p2 f) 1 r) (f0 : 8 ≤ f) : a * p2 (f + 2) ≤ (2 * r + 1) * (2 * r + 1) := by
  have e : p2 (f + 2) = p2 f * 4 := by
    unfold p2
    rw [show (f + 2).toNat = f.toNat + 2 by omega, Int.pow_add]
    omega
  have := hn.2.2.1
  rw [e, ← Int.mul_assoc]
  omega
theorem sq_low' {f a r : Int} (hn : NearRoot (a * p2 f) 1 r) (f0 : 8 ≤ f) (r0 : 0 < r) : (2 * r - 1) * (2 * r - 1) ≤ a * p2 (f + 2) := by
  have e : p2 (f + 2) = p2 f * 4 := by
    unfold p2
    rw [show (f + 2).toNat = f.toNat + 2 by omega, Int.pow_add]
    omega
  have := hn.2.1 r0
  rw [e, ← Int.mul_assoc]
  omega
theorem rsqrt_some {a f : Int} (w : World) (ha : gd a = true) (hf : gdF f = true) (a0 : 0 ≤ a) :
    Calls Try.prog 76 #[.int .i64 a, .int .i64 f] w fun e w' => ∃ v k, e = .returned (.tuple #[.int .i64 v, .int .i64 k]) ∧ Ext w w' ∧ (k = 0 → 0 < a ∧ NearRoot (p2 (3 * f)) a v) := by
  rcases Int.lt_or_eq_of_le a0 with h | h
  · refine (rsqrt_ok a f w ha hf h).mono ?_
    rintro e w' ⟨r, rfl, x, n⟩
    cases g : gd r
    · exact ⟨_, _, rfl, x, fun h => by rw [we_no g] at h; cases h⟩
    · exact ⟨_, _, rfl, x, fun _ => ⟨h, by rw [wv_of g]; exact n⟩⟩
  · subst h
    refine (rsqrt_zero f w hf).mono ?_
    rintro e w' ⟨rfl, rfl⟩
    exact ⟨_, _, rfl, Ext.refl _, fun h => by cases h⟩
end Go.Proofs.Ytielcbpjnjdlmaa
