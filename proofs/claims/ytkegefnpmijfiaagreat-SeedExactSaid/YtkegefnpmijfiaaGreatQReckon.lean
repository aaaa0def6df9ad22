/- fx: reckon, Add, Sub, Neg, Mul of words; the law's own small functions. -/
import Derived.Test.YtkegefnpmijfiaaGreatQTimes
namespace Go.Proofs.YtkegefnpmijfiaaGreat
open Go.RowKit
/-- A word. -/
def Wd (a : Int) : Prop := -140737488355328 < a ∧ a < 140737488355328
theorem plus_any (a b f : Int) (w : World) (ha : Wd a) (hb : Wd b) :
    Calls Tryz.prog 280 #[.agg #[.int .i64 a, .int .i64 b, .int .i64 f]] w fun e w' => e = .returned (.tuple #[.int .i64 (wv (a + b)), .int .i64 (we (a + b))]) ∧ Ext w w' := by
  obtain ⟨a1, a2⟩ := ha
  obtain ⟨b1, b2⟩ := hb
  go_enter Tryz.func280, Tryz.ntmps280
  go_wp2_with (go_at_call 169; refine (word_any _ _).mono ?_; rintro e w' ⟨rfl, rfl⟩)
  go_ret2
  exact ⟨rfl, Ext.q⟩
theorem may2_any (v : Int) (w : World) :
    Calls Tryz.prog 16 #[.int .i64 v] w fun e w' => e = .returned (.bool (gd v)) ∧ w = w' := by
  by_cases h1 : -140737488355328 < v
  · by_cases h2 : v < 140737488355328
    · go_enter Tryz.func16, Tryz.ntmps16
      go_wp2
      go_ret
      exact ⟨by rw [gd_t h1 h2]; rfl, rfl⟩
    · go_enter Tryz.func16, Tryz.ntmps16
      go_wp2
      go_ret
      exact ⟨by rw [gd_f (by omega)]; rfl, rfl⟩
  · go_enter Tryz.func16, Tryz.ntmps16
    go_wp2
    go_ret
    exact ⟨by rw [gd_f (by omega)]; rfl, rfl⟩
theorem wv_of {x : Int} (h : gd x = true) : wv x = x := by simp [wv, h]
theorem we_of {x : Int} (h : gd x = true) : we x = 0 := by simp [we, h]
theorem wv_no {x : Int} (h : gd x = false) : wv x = 0 := by simp [wv, h]
theorem we_no {x : Int} (h : gd x = false) : we x = 3 := by simp [we, h]
end Go.Proofs.YtkegefnpmijfiaaGreat
