/- ratchetlaw0: Within, F. ratchetlaw0.Heavy. -/
import Derived.Test.YtjmecongccjcgaaFx
import Derived.Test.YtjmecongccjcgaaTens
namespace Go.Proofs.Ytjmecongccjcgaa
open Go.RowKit
theorem Within_some (x m : Int) (h0 : 0 < m) (h1 : m < 1000) : ∃ j : Int, 0 ≤ j ∧ j < m ∧ ∀ w, Calls Try.prog 34 #[.int .i64 x, .int .i64 m] w fun e w' => e = .returned (.int .i64 j) ∧ w = w' := by
  refine ⟨(x % 18446744073709551616) % m, Int.emod_nonneg _ (by omega), Int.emod_lt_of_pos _ h0, fun w => ?_⟩
  have e0 : IntKind.u64.wrap x = x % 18446744073709551616 := rfl
  have e1 : (x % 18446744073709551616).tmod m = (x % 18446744073709551616) % m := Int.tmod_eq_emod_of_nonneg (by omega)
  have b1 : 0 ≤ (x % 18446744073709551616) % m := Int.emod_nonneg _ (by omega)
  have b2 : (x % 18446744073709551616) % m < m := Int.emod_lt_of_pos _ h0
  have e2 : m % 18446744073709551616 = m := by omega
  have e3 : m ≠ 0 := by omega
  go_enter Try.func34, Try.ntmps34
  go_wp2
  go_ret
  simp [*]
theorem F_some (x : Int) : ∃ f : Int, gdF f = true ∧ ∀ w, Calls Try.prog 7 #[.int .i64 x] w fun e w' => e = .returned (.int .i64 f) ∧ w = w' := by
  obtain ⟨j, j0, j1, W⟩ := Within_some x 25 (by omega) (by omega)
  refine ⟨8 + j, gdF_iff.2 ⟨by omega, by omega⟩, fun w => ?_⟩
  have W' := Lib.hid W
  clear W
  go_enter Try.func7, Try.ntmps7
  go_wp2_with fail; refine (W'.out _).mono ?_; rintro e w' ⟨rfl, rfl⟩
  go_wp2
  go_ret
  exact ⟨rfl, rfl⟩
theorem wrap_i64 {x : Int} (h1 : -9223372036854775808 ≤ x) (h2 : x ≤ 9223372036854775807) : IntKind.i64.wrap x = x := by
  rw [IntKind.wrap_i64]; omega
end Go.Proofs.Ytjmecongccjcgaa
namespace Go.Proofs.Ytjmecongccjcgaa
open Go.RowKit
attribute [local go_sem ↓] Go.wp_at_zero Go.wp_at_succ
theorem heavyT_any {s d : Value} {xs ds : List Int} {m : Int} {w : World} (hs : Row .i64 w s xs) (hd : Row .i64 w d ds) :
    Calls Try.prog 5 #[.agg #[s, d], .int .i64 m] w fun e w' => e = .returned (.bool (decide (m < (ds.length : Int)) || decide (8 < (xs.length : Int)))) ∧ Ext w w' := by
  obtain ⟨a, ca, rfl, la⟩ := hs.form
  obtain ⟨b, cb, rfl, lb⟩ := hd.form
  clear hs hd
  by_cases h : m < (ds.length : Int)
  · go_enter Try.func5, Try.ntmps5
    go_wp2
    go_ret
    exact ⟨by simp [h], (by repeat (first | with_reducible exact Ext.refl _ | with_reducible apply Ext.drew | with_reducible apply Ext.drewN | with_reducible apply Ext.alloc | ((with_reducible refine Ext.setCell ?_ ?_ _); rotate_left; focus (first | (simp; done) | (simp; omega) | omega)) | with_reducible assumption))⟩
  · go_enter Try.func5, Try.ntmps5
    go_wp2
    go_ret
    exact ⟨by rw [show decide (m < (ds.length : Int)) = false by simp; omega]; rfl, (by repeat (first | with_reducible exact Ext.refl _ | with_reducible apply Ext.drew | with_reducible apply Ext.drewN | with_reducible apply Ext.alloc | ((with_reducible refine Ext.setCell ?_ ?_ _); rotate_left; focus (first | (simp; done) | (simp; omega) | omega)) | with_reducible assumption))⟩
end Go.Proofs.Ytjmecongccjcgaa
