/- fx: Add, Sub, Neg, Mul, Div, Ratio, Close of whatever arguments. -/
import Derived.Test.YtkegefnpmijfiaaGreatQReckon
import Derived.Test.YtkegefnpmijfiaaGreatQNearsP
import Derived.Test.YtkegefnpmijfiaaGreatQAskS
namespace Go.Proofs.YtkegefnpmijfiaaGreat
open Go.RowKit
def sel (c : Bool) (x y : Int) : Int := if c then x else y
theorem sel_t (x y : Int) : sel true x y = x := rfl
theorem Ratio_all (a d f : Int) (w : World) (a1 : -9223372036854775808 ≤ a) (a2 : a < 9223372036854775808) (d1 : -9223372036854775808 ≤ d) (d2 : d < 9223372036854775808) :
    Calls Tryz.prog 193 #[.int .i64 a, .int .i64 d, .int .i64 f] w fun e w' => e = .returned (.tuple #[.int .i64 (sel (gdF f) (dv a d f) 0), .int .i64 (sel (gdF f) (de a d f) 1)]) ∧ Ext w w' := by
  cases h : gdF f
  · exact Ratio_bad a d f w h
  · exact Ratio_any a d f w a1 a2 d1 d2 h
theorem mayF2_any (f : Int) (w : World) :
    Calls Tryz.prog 15 #[.int .i64 f] w fun e w' => e = .returned (.bool (gdF f)) ∧ w = w' := by
  by_cases h1 : 8 ≤ f
  · by_cases h2 : f ≤ 32
    · have g : gdF f = true := gdF_iff.2 ⟨h1, h2⟩
      rw [g]
      clear g
      go_enter Tryz.func15, Tryz.ntmps15
      go_wp2
      go_ret
      exact ⟨rfl, rfl⟩
    · have g : gdF f = false := by simp [gdF]; omega
      rw [g]
      clear g
      go_enter Tryz.func15, Tryz.ntmps15
      go_wp2
      go_ret
      exact ⟨rfl, rfl⟩
  · have g : gdF f = false := by simp [gdF]; omega
    rw [g]
    clear g
    go_enter Tryz.func15, Tryz.ntmps15
    go_wp2
    go_ret
    exact ⟨rfl, rfl⟩
end Go.Proofs.YtkegefnpmijfiaaGreat
