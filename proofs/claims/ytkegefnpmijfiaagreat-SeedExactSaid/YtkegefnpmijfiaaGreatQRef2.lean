/- ref2: Near, Add, Sub, Neg, Mul, Div, Close. -/
import Derived.Test.YtkegefnpmijfiaaGreatQRatNear
import Derived.Test.YtkegefnpmijfiaaGreatQRef1
import Derived.Test.YtkegefnpmijfiaaGreatQReckon
namespace Go.Proofs.YtkegefnpmijfiaaGreat
open Go.RowKit
theorem Near_ref {v : Value} {n d : Int} {L : Nat} {w : World} (h : RatAt w v n d L) (d0 : 0 < d) (hL : L ≤ 1000) :
    Calls Tryz.prog 114 #[v] w fun e w' => e = .returned (.tuple #[.int .i64 (wv (near n d)), .int .i64 (we (near n d))]) ∧ Ext w w' := by
  have H := Lib.hid h
  obtain ⟨a, k, c, b, l, f, rfl, -, -⟩ := h.is
  clear h
  go_enter Tryz.func114, Tryz.ntmps114
  go_wp2_with fail; refine (RNear_ref (H.out.ext Ext.q) d0 hL).mono ?_; rintro e v1 ⟨q1, rfl, x1, h1⟩; obtain ⟨c1, f1⟩ := x1.rules; have z1 := x1.size
  have H1 := Lib.hid h1
  clear h1
  go_wp2_with fail; refine (Word_ref H1.out).mono ?_; rintro e v2 ⟨rfl, x2⟩; obtain ⟨c2, f2⟩ := x2.rules; have z2 := x2.size
  go_wp2
  go_ret2
  exact ⟨rfl, Ext.q⟩
end Go.Proofs.YtkegefnpmijfiaaGreat
