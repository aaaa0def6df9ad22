/- ref2: Near, Add, Sub, Neg, Mul, Div, Close. -/
import Derived.Test.YtjmecongccjcgaaRatNear
import Derived.Test.YtjmecongccjcgaaRef1
import Derived.Test.YtjmecongccjcgaaReckon
namespace Go.Proofs.Ytjmecongccjcgaa
open Go.RowKit
/-- The two numbers of a law's input. -/
theorem Add_ref (x y : Int) (w : World) (x1 : -9223372036854775808 ≤ x) (x2 : x ≤ 9223372036854775807) (y1 : -9223372036854775808 ≤ y) (y2 : y ≤ 9223372036854775807) :
    Calls Try.prog 22 #[.int .i64 x, .int .i64 y] w fun e w' => e = .returned (.tuple #[.int .i64 (wv (x + y)), .int .i64 (we (x + y))]) ∧ Ext w w' := by
  have F1 := Lib.hid (fun u => From_ref x u x1 x2)
  have F2 := Lib.hid (fun u => From_ref y u y1 y2)
  clear x1 x2 y1 y2
  go_enter Try.func22, Try.ntmps22
  go_wp2_with fail; refine (F1.out _).mono ?_; rintro e v1 ⟨q1, rfl, x1, h1⟩; obtain ⟨c1, f1⟩ := x1.rules; have z1 := x1.size
  have H1 := Lib.hid h1
  clear h1
  go_wp2_with fail; refine (F2.out _).mono ?_; rintro e v2 ⟨q2, rfl, x2, h2⟩; obtain ⟨c2, f2⟩ := x2.rules; have z2 := x2.size
  have H2 := Lib.hid h2
  clear h2
  go_wp2_with fail; refine (Plus_ref (H1.out.ext (by repeat (first | with_reducible exact Ext.refl _ | with_reducible apply Ext.drew | with_reducible apply Ext.drewN | with_reducible apply Ext.alloc | ((with_reducible refine Ext.setCell ?_ ?_ _); rotate_left; focus (first | (simp; done) | (simp; omega) | omega)) | with_reducible refine Ext.tr ?_ x1 | with_reducible refine Ext.tr ?_ x2 | with_reducible refine Ext.tr ?_ x3 | with_reducible refine Ext.tr ?_ x4 | with_reducible assumption))) H2.out (by omega)).mono ?_; rintro e v3 ⟨q3, rfl, x3, h3⟩; obtain ⟨c3, f3⟩ := x3.rules; have z3 := x3.size
  have H3 := Lib.hid h3.1
  clear h3
  go_wp2_with fail; refine (Word_ref H3.out).mono ?_; rintro e v4 ⟨rfl, x4⟩; obtain ⟨c4, f4⟩ := x4.rules; have z4 := x4.size
  go_wp2
  go_ret2
  exact ⟨rfl, (by repeat (first | with_reducible exact Ext.refl _ | with_reducible apply Ext.drew | with_reducible apply Ext.drewN | with_reducible apply Ext.alloc | ((with_reducible refine Ext.setCell ?_ ?_ _); rotate_left; focus (first | (simp; done) | (simp; omega) | omega)) | with_reducible refine Ext.tr ?_ x1 | with_reducible refine Ext.tr ?_ x2 | with_reducible refine Ext.tr ?_ x3 | with_reducible refine Ext.tr ?_ x4 | with_reducible assumption))⟩
end Go.Proofs.Ytjmecongccjcgaa
