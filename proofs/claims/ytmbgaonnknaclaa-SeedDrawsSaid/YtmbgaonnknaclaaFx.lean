/- Package fx, first part: Good, GoodF, Word, Small, Narrow. -/
import Derived.Test.YtmbgaonnknaclaaWide
namespace Go.Proofs.Ytmbgaonnknaclaa
open Go.RowKit
/-- A word; what is told of a number, and the error with it. -/
def gd (v : Int) : Bool := decide (-140737488355328 < v ∧ v < 140737488355328)
def wv (v : Int) : Int := if gd v then v else 0
def we (v : Int) : Int := if gd v then 0 else 3
def gdF (f : Int) : Bool := decide (8 ≤ f ∧ f ≤ 32)
theorem gd_t {v : Int} (h1 : -140737488355328 < v) (h2 : v < 140737488355328) : gd v = true := by simp [gd, h1, h2]
theorem gd_f {v : Int} (h : v ≤ -140737488355328 ∨ 140737488355328 ≤ v) : gd v = false := by simp [gd]; omega
theorem gd_iff {v : Int} : gd v = true ↔ -140737488355328 < v ∧ v < 140737488355328 := by simp [gd]
theorem gdF_iff {v : Int} : gdF v = true ↔ 8 ≤ v ∧ v ≤ 32 := by simp [gdF]
theorem good_any (v : Int) (w : World) :
    Calls Try.prog 65 #[.int .i64 v] w fun e w' => e = .returned (.bool (gd v)) ∧ w = w' := by
  by_cases h1 : -140737488355328 < v
  · by_cases h2 : v < 140737488355328
    · go_enter Try.func65, Try.ntmps65
      go_wp2
      go_ret
      exact ⟨by rw [gd_t h1 h2]; rfl, rfl⟩
    · go_enter Try.func65, Try.ntmps65
      go_wp2
      go_ret
      exact ⟨by rw [gd_f (by omega)]; rfl, rfl⟩
  · go_enter Try.func65, Try.ntmps65
    go_wp2
    go_ret
    exact ⟨by rw [gd_f (by omega)]; rfl, rfl⟩
theorem goodF_any (v : Int) (w : World) :
    Calls Try.prog 75 #[.int .i64 v] w fun e w' => e = .returned (.bool (gdF v)) ∧ w = w' := by
  by_cases h1 : 8 ≤ v
  · by_cases h2 : v ≤ 32
    · have g : gdF v = true := by simp [gdF, h1, h2]
      have G := Lib.hid g
      clear g
      go_enter Try.func75, Try.ntmps75
      go_wp2
      go_ret
      exact ⟨by rw [G.out]; rfl, rfl⟩
    · have g : gdF v = false := by simp [gdF, h2]
      have G := Lib.hid g
      clear g
      go_enter Try.func75, Try.ntmps75
      go_wp2
      go_ret
      exact ⟨by rw [G.out]; rfl, rfl⟩
  · have g : gdF v = false := by simp [gdF]; omega
    have G := Lib.hid g
    clear g
    go_enter Try.func75, Try.ntmps75
    go_wp2
    go_ret
    exact ⟨by rw [G.out]; rfl, rfl⟩
theorem word_any (v : Int) (w : World) :
    Calls Try.prog 129 #[.int .i64 v] w fun e w' => e = .returned (.tuple #[.int .i64 (wv v), .int .i64 (we v)]) ∧ w = w' := by
  cases h : gd v
  · go_enter Try.func129, Try.ntmps129
    go_wp2_with (go_at_call 65; refine (good_any _ _).mono ?_; rintro e w' ⟨rfl, rfl⟩)
    go_ret2
    exact ⟨by simp [wv, we, h], rfl⟩
  · go_enter Try.func129, Try.ntmps129
    go_wp2_with (go_at_call 65; refine (good_any _ _).mono ?_; rintro e w' ⟨rfl, rfl⟩)
    go_ret2
    exact ⟨by simp [wv, we, h], rfl⟩
theorem small_yes (x : Int) (w : World) (h1 : -9223372036854775808 ≤ x) (h2 : x < 9223372036854775808) :
    Calls Try.prog 146 #[.agg #[.int .i64 (hi x), .int .u64 (lo x)]] w fun e w' => e = .returned (.tuple #[.int .i64 x, .bool true]) ∧ Ext w w' := by
  have a1 := lo_nn x
  have a2 := lo_lt x
  have e1 : wrap64 (lo x) = x := by unfold wrap64 lo; omega
  have e2 : (x / 9223372036854775808 != hi x) = false := by unfold hi; simp; omega
  go_enter Try.func146, Try.ntmps146
  go_wp2
  go_ret2
  exact ⟨by simp [e1], (by repeat (first | with_reducible exact Ext.refl _ | with_reducible apply Ext.drew | with_reducible apply Ext.drewN | with_reducible apply Ext.alloc | ((with_reducible refine Ext.setCell ?_ ?_ _); rotate_left; focus (first | (simp; done) | (simp; omega) | omega)) | with_reducible refine Ext.tr ?_ x1 | with_reducible assumption))⟩
theorem small_no (x : Int) (w : World) (h : x < -9223372036854775808 ∨ 9223372036854775808 ≤ x) :
    Calls Try.prog 146 #[.agg #[.int .i64 (hi x), .int .u64 (lo x)]] w fun e w' => e = .returned (.tuple #[.int .i64 0, .bool false]) ∧ Ext w w' := by
  have a1 := lo_nn x
  have a2 := lo_lt x
  have e2 : (wrap64 (lo x) / 9223372036854775808 != hi x) = true := by unfold wrap64 hi lo; simp; omega
  clear h
  go_enter Try.func146, Try.ntmps146
  go_wp2
  go_ret2
  exact ⟨by simp, (by repeat (first | with_reducible exact Ext.refl _ | with_reducible apply Ext.drew | with_reducible apply Ext.drewN | with_reducible apply Ext.alloc | ((with_reducible refine Ext.setCell ?_ ?_ _); rotate_left; focus (first | (simp; done) | (simp; omega) | omega)) | with_reducible refine Ext.tr ?_ x1 | with_reducible assumption))⟩
theorem narrow_any (x : Int) (w : World) :
    Calls Try.prog 105 #[.agg #[.int .i64 (hi x), .int .u64 (lo x)]] w fun e w' => e = .returned (.tuple #[.int .i64 (wv x), .int .i64 (we x)]) ∧ Ext w w' := by
  by_cases h : -9223372036854775808 ≤ x ∧ x < 9223372036854775808
  · obtain ⟨h1, h2⟩ := h
    go_enter Try.func105, Try.ntmps105
    go_wp2_with (first
      | (go_at_call 146; refine (small_yes x _ h1 h2).mono ?_; rintro e v1 ⟨rfl, x1⟩; obtain ⟨c1, f1⟩ := x1.rules; have z1 := x1.size; have k1_0_0 := c1 (w.heap.size) 0 (by first | (simp; done) | (simp; omega) | omega); have q1_0_0 := f1 (w.heap.size) 0 (by first | (simp; done) | (simp; omega) | omega); have k1_0_1 := c1 (w.heap.size) 1 (by first | (simp; done) | (simp; omega) | omega); have q1_0_1 := f1 (w.heap.size) 1 (by first | (simp; done) | (simp; omega) | omega); have z1_0 : w.heap.size < v1.heap.size := (by (try simp at z1); omega); (try simp at z1); clear c1 f1; simp [go_sem, *] at k1_0_0 q1_0_0 k1_0_1 q1_0_1)
      | (go_at_call 129; refine (word_any _ _).mono ?_; rintro e w' ⟨rfl, rfl⟩))
    go_ret2
    exact ⟨rfl, (by repeat (first | with_reducible exact Ext.refl _ | with_reducible apply Ext.drew | with_reducible apply Ext.drewN | with_reducible apply Ext.alloc | ((with_reducible refine Ext.setCell ?_ ?_ _); rotate_left; focus (first | (simp; done) | (simp; omega) | omega)) | with_reducible refine Ext.tr ?_ x1 | with_reducible assumption))⟩
  · have h' : x < -9223372036854775808 ∨ 9223372036854775808 ≤ x := by omega
    have g : gd x = false := gd_f (by omega)
    have G := Lib.hid g
    clear g h
    go_enter Try.func105, Try.ntmps105
    go_wp2_with (go_at_call 146; refine (small_no x _ h').mono ?_; rintro e v1 ⟨rfl, x1⟩; obtain ⟨c1, f1⟩ := x1.rules; have z1 := x1.size; have k1_0_0 := c1 (w.heap.size) 0 (by first | (simp; done) | (simp; omega) | omega); have q1_0_0 := f1 (w.heap.size) 0 (by first | (simp; done) | (simp; omega) | omega); have k1_0_1 := c1 (w.heap.size) 1 (by first | (simp; done) | (simp; omega) | omega); have q1_0_1 := f1 (w.heap.size) 1 (by first | (simp; done) | (simp; omega) | omega); have z1_0 : w.heap.size < v1.heap.size := (by (try simp at z1); omega); (try simp at z1); clear c1 f1; simp [go_sem, *] at k1_0_0 q1_0_0 k1_0_1 q1_0_1)
    go_ret2
    exact ⟨by simp [wv, we, G.out], (by repeat (first | with_reducible exact Ext.refl _ | with_reducible apply Ext.drew | with_reducible apply Ext.drewN | with_reducible apply Ext.alloc | ((with_reducible refine Ext.setCell ?_ ?_ _); rotate_left; focus (first | (simp; done) | (simp; omega) | omega)) | with_reducible refine Ext.tr ?_ x1 | with_reducible assumption))⟩
end Go.Proofs.Ytmbgaonnknaclaa
