/- ref2: Near, Add, Sub, Neg, Mul, Div, Close. -/
import Derived.Test.YtapmldoehbeedaaGreatQRatNear
import Derived.Test.YtapmldoehbeedaaGreatQRef1
import Derived.Test.YtapmldoehbeedaaGreatQReckon
namespace Go.Proofs.YtapmldoehbeedaaGreat
open Go.RowKit
theorem Near_ref {v : Value} {n d : Int} {L : Nat} {w : World} (h : RatAt w v n d L) (d0 : 0 < d) (hL : L ≤ 1000) :
    Calls Tryz.prog 114 #[v] w fun e w' => e = .returned (.tuple #[.int .i64 (wv (near n d)), .int .i64 (we (near n d))]) ∧ Ext w w' := by
  have H := Lib.hid h
  obtain ⟨a, k, c, b, l, f, rfl, -, -⟩ := h.is
  clear h
  go_enter Tryz.func114, Tryz.ntmps114
  go_wp2_with fail; refine (RNear_ref (H.out.ext (by repeat (first | (with_reducible first | exact Ext.refl _ | apply Ext.drew | apply Ext.drewN | apply Ext.alloc) | ((with_reducible refine Ext.setCell ?_ ?_ _); rotate_left; focus (first | (simp; done) | (simp; omega) | omega)) | (with_reducible first | refine Ext.tr ?_ x1 | refine Ext.tr ?_ x2 | refine Ext.tr ?_ x3 | refine Ext.tr ?_ x7 | assumption)))) d0 hL).mono ?_; rintro e v1 ⟨q1, rfl, x1, h1⟩; obtain ⟨c1, f1⟩ := x1.rules; have z1 := x1.size
  have H1 := Lib.hid h1
  clear h1
  go_wp2_with fail; refine (Word_ref H1.out).mono ?_; rintro e v2 ⟨rfl, x2⟩; obtain ⟨c2, f2⟩ := x2.rules; have z2 := x2.size
  go_wp2
  go_ret2
  exact ⟨rfl, (by repeat (first | (with_reducible first | exact Ext.refl _ | apply Ext.drew | apply Ext.drewN | apply Ext.alloc) | ((with_reducible refine Ext.setCell ?_ ?_ _); rotate_left; focus (first | (simp; done) | (simp; omega) | omega)) | (with_reducible first | refine Ext.tr ?_ x1 | refine Ext.tr ?_ x2 | refine Ext.tr ?_ x3 | refine Ext.tr ?_ x7 | assumption)))⟩
theorem RefDiv_0 (x f : Int) (w : World) :
    Calls Tryz.prog 43 #[.int .i64 x, .int .i64 0, .int .i64 f] w fun e w' => e = .returned (.tuple #[.int .i64 0, .int .i64 4]) ∧ Ext w w' := by
  go_enter Tryz.func43, Tryz.ntmps43
  go_wp2
  go_ret2
  exact ⟨rfl, (by repeat (first | (with_reducible first | exact Ext.refl _ | apply Ext.drew | apply Ext.drewN | apply Ext.alloc) | ((with_reducible refine Ext.setCell ?_ ?_ _); rotate_left; focus (first | (simp; done) | (simp; omega) | omega)) | (with_reducible first | refine Ext.tr ?_ x1 | refine Ext.tr ?_ x2 | refine Ext.tr ?_ x3 | refine Ext.tr ?_ x7 | assumption)))⟩
theorem RefDiv_ref (x y f : Int) (w : World) (x1 : -9223372036854775808 ≤ x) (x2 : x ≤ 9223372036854775807) (y1 : -9223372036854775808 ≤ y) (y2 : y ≤ 9223372036854775807) (f0 : 0 ≤ f) (f1 : f < 64) :
    Calls Tryz.prog 43 #[.int .i64 x, .int .i64 y, .int .i64 f] w fun e w' => e = .returned (.tuple #[.int .i64 (dv x y f), .int .i64 (de x y f)]) ∧ Ext w w' := by
  by_cases h : y = 0
  · subst h; exact RefDiv_0 x f w
  · rw [dv_ok h, de_ok h, rdiv_near _ _ h, show (if y < 0 then -(x * p2 f) else x * p2 f) = sgd y (x * p2 f) from rfl]
    have F1 := Lib.hid (fun u => From_ref x u x1 x2)
    have F2 := Lib.hid (fun u => From_ref y u y1 y2)
    have z : (y == 0) = false := by rw [beq_eq_false_iff_ne]; exact h
    clear x1 x2 y1 y2
    go_enter Tryz.func43, Tryz.ntmps43
    go_wp2_with fail; refine (F1.out _).mono ?_; rintro e v1 ⟨q1, rfl, x1, h1⟩; obtain ⟨c1, f1⟩ := x1.rules; have z1 := x1.size
    have H1 := Lib.hid h1
    clear h1
    go_wp2_with fail; refine (F2.out _).mono ?_; rintro e v2 ⟨q2, rfl, x2, h2⟩; obtain ⟨c2, f2⟩ := x2.rules; have z2 := x2.size
    have H2 := Lib.hid h2
    clear h2
    go_wp2_with fail
    refine (Over_ref (H1.out.ext (by repeat (first | (with_reducible first | exact Ext.refl _ | apply Ext.drew | apply Ext.drewN | apply Ext.alloc) | ((with_reducible refine Ext.setCell ?_ ?_ _); rotate_left; focus (first | (simp; done) | (simp; omega) | omega)) | (with_reducible first | refine Ext.tr ?_ x1 | refine Ext.tr ?_ x2 | refine Ext.tr ?_ x3 | refine Ext.tr ?_ x7 | assumption)))) H2.out h (by omega) f0 (by omega) (show 1 + f.toNat / 64 + 1 ≤ 2 by omega) (by omega)).mono ?_; rintro e v3 ⟨v, n', d', g, rfl, x3, g0, e1, e2, d0, h6⟩; obtain ⟨c3, f3⟩ := x3.rules; have z3 := x3.size
    have H6 := Lib.hid h6
    have e := near_gcd g0 e1 e2
    have nr := fun (u : World) (x : Ext v3 u) => Near_ref (H6.out.ext x) d0 (by omega)
    rw [← e] at nr
    have NR := Lib.hid nr
    clear h6 e1 e2 e nr
    go_wp2_with fail; refine (NR.out _ (by repeat (first | (with_reducible first | exact Ext.refl _ | apply Ext.drew | apply Ext.drewN | apply Ext.alloc) | ((with_reducible refine Ext.setCell ?_ ?_ _); rotate_left; focus (first | (simp; done) | (simp; omega) | omega)) | (with_reducible first | refine Ext.tr ?_ x1 | refine Ext.tr ?_ x2 | refine Ext.tr ?_ x3 | refine Ext.tr ?_ x7 | assumption)))).mono ?_; rintro e v7 ⟨rfl, x7⟩; obtain ⟨c7, f7⟩ := x7.rules; have z7 := x7.size
    go_wp2
    go_ret2
    exact ⟨rfl, (by repeat (first | (with_reducible first | exact Ext.refl _ | apply Ext.drew | apply Ext.drewN | apply Ext.alloc) | ((with_reducible refine Ext.setCell ?_ ?_ _); rotate_left; focus (first | (simp; done) | (simp; omega) | omega)) | (with_reducible first | refine Ext.tr ?_ x1 | refine Ext.tr ?_ x2 | refine Ext.tr ?_ x3 | refine Ext.tr ?_ x7 | assumption)))⟩
end Go.Proofs.YtapmldoehbeedaaGreat
