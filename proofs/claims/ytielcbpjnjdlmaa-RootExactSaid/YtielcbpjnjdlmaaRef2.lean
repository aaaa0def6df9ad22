/- ref2: Near, Add, Sub, Neg, Mul, Div, Close. -/
import Derived.Test.YtielcbpjnjdlmaaRatNear
import Derived.Test.YtielcbpjnjdlmaaRef1
import Derived.Test.YtielcbpjnjdlmaaReckon
namespace Go.Proofs.Ytielcbpjnjdlmaa
open Go.RowKit
theorem Near_ref {v : Value} {n d : Int} {L : Nat} {w : World} (h : RatAt w v n d L) (d0 : 0 < d) (hL : L ≤ 1000) :
    Calls Try.prog 119 #[v] w fun e w' => e = .returned (.tuple #[.int .i64 (wv (near n d)), .int .i64 (we (near n d))]) ∧ Ext w w' := by
  have H := Lib.hid h
  obtain ⟨a, k, c, b, l, f, rfl, -, -⟩ := h.is
  clear h
  go_enter Try.func119, Try.ntmps119
  go_wp2_with fail; refine (RNear_ref (H.out.ext (by repeat (first | with_reducible exact Ext.refl _ | with_reducible apply Ext.drew | with_reducible apply Ext.drewN | with_reducible apply Ext.alloc | ((with_reducible refine Ext.setCell ?_ ?_ _); rotate_left; focus (first | (simp; done) | (simp; omega) | omega)) | with_reducible refine Ext.tr ?_ x1 | with_reducible refine Ext.tr ?_ x2 | with_reducible refine Ext.tr ?_ x3 | with_reducible refine Ext.tr ?_ x4 | with_reducible refine Ext.tr ?_ x5 | with_reducible refine Ext.tr ?_ x6 | with_reducible refine Ext.tr ?_ x7 | with_reducible assumption))) d0 hL).mono ?_; rintro e v1 ⟨q1, rfl, x1, h1⟩; obtain ⟨c1, f1⟩ := x1.rules; have z1 := x1.size
  have H1 := Lib.hid h1
  clear h1
  go_wp2_with fail; refine (Word_ref H1.out).mono ?_; rintro e v2 ⟨rfl, x2⟩; obtain ⟨c2, f2⟩ := x2.rules; have z2 := x2.size
  go_wp2
  go_ret2
  exact ⟨rfl, (by repeat (first | with_reducible exact Ext.refl _ | with_reducible apply Ext.drew | with_reducible apply Ext.drewN | with_reducible apply Ext.alloc | ((with_reducible refine Ext.setCell ?_ ?_ _); rotate_left; focus (first | (simp; done) | (simp; omega) | omega)) | with_reducible refine Ext.tr ?_ x1 | with_reducible refine Ext.tr ?_ x2 | with_reducible refine Ext.tr ?_ x3 | with_reducible refine Ext.tr ?_ x4 | with_reducible refine Ext.tr ?_ x5 | with_reducible refine Ext.tr ?_ x6 | with_reducible refine Ext.tr ?_ x7 | with_reducible assumption))⟩
/-- The two numbers of a law's input. -/
theorem Add_ref (x y : Int) (w : World) (x1 : -9223372036854775808 ≤ x) (x2 : x ≤ 9223372036854775807) (y1 : -9223372036854775808 ≤ y) (y2 : y ≤ 9223372036854775807) :
    Calls Try.prog 65 #[.int .i64 x, .int .i64 y] w fun e w' => e = .returned (.tuple #[.int .i64 (wv (x + y)), .int .i64 (we (x + y))]) ∧ Ext w w' := by
  have F1 := Lib.hid (fun u => From_ref x u x1 x2)
  have F2 := Lib.hid (fun u => From_ref y u y1 y2)
  clear x1 x2 y1 y2
  go_enter Try.func65, Try.ntmps65
  go_wp2_with fail; refine (F1.out _).mono ?_; rintro e v1 ⟨q1, rfl, x1, h1⟩; obtain ⟨c1, f1⟩ := x1.rules; have z1 := x1.size
  have H1 := Lib.hid h1
  clear h1
  go_wp2_with fail; refine (F2.out _).mono ?_; rintro e v2 ⟨q2, rfl, x2, h2⟩; obtain ⟨c2, f2⟩ := x2.rules; have z2 := x2.size
  have H2 := Lib.hid h2
  clear h2
  go_wp2_with fail; refine (Plus_ref (H1.out.ext (by repeat (first | with_reducible exact Ext.refl _ | with_reducible apply Ext.drew | with_reducible apply Ext.drewN | with_reducible apply Ext.alloc | ((with_reducible refine Ext.setCell ?_ ?_ _); rotate_left; focus (first | (simp; done) | (simp; omega) | omega)) | with_reducible refine Ext.tr ?_ x1 | with_reducible refine Ext.tr ?_ x2 | with_reducible refine Ext.tr ?_ x3 | with_reducible refine Ext.tr ?_ x4 | with_reducible refine Ext.tr ?_ x5 | with_reducible refine Ext.tr ?_ x6 | with_reducible refine Ext.tr ?_ x7 | with_reducible assumption))) H2.out (by omega)).mono ?_; rintro e v3 ⟨q3, rfl, x3, h3⟩; obtain ⟨c3, f3⟩ := x3.rules; have z3 := x3.size
  have H3 := Lib.hid h3.1
  clear h3
  go_wp2_with fail; refine (Word_ref H3.out).mono ?_; rintro e v4 ⟨rfl, x4⟩; obtain ⟨c4, f4⟩ := x4.rules; have z4 := x4.size
  go_wp2
  go_ret2
  exact ⟨rfl, (by repeat (first | with_reducible exact Ext.refl _ | with_reducible apply Ext.drew | with_reducible apply Ext.drewN | with_reducible apply Ext.alloc | ((with_reducible refine Ext.setCell ?_ ?_ _); rotate_left; focus (first | (simp; done) | (simp; omega) | omega)) | with_reducible refine Ext.tr ?_ x1 | with_reducible refine Ext.tr ?_ x2 | with_reducible refine Ext.tr ?_ x3 | with_reducible refine Ext.tr ?_ x4 | with_reducible refine Ext.tr ?_ x5 | with_reducible refine Ext.tr ?_ x6 | with_reducible refine Ext.tr ?_ x7 | with_reducible assumption))⟩
theorem Sub_ref (x y : Int) (w : World) (x1 : -9223372036854775808 ≤ x) (x2 : x ≤ 9223372036854775807) (y1 : -9223372036854775808 ≤ y) (y2 : y ≤ 9223372036854775807) :
    Calls Try.prog 66 #[.int .i64 x, .int .i64 y] w fun e w' => e = .returned (.tuple #[.int .i64 (wv (x - y)), .int .i64 (we (x - y))]) ∧ Ext w w' := by
  have F1 := Lib.hid (fun u => From_ref x u x1 x2)
  have F2 := Lib.hid (fun u => From_ref y u y1 y2)
  clear x1 x2 y1 y2
  go_enter Try.func66, Try.ntmps66
  go_wp2_with fail; refine (F1.out _).mono ?_; rintro e v1 ⟨q1, rfl, x1, h1⟩; obtain ⟨c1, f1⟩ := x1.rules; have z1 := x1.size
  have H1 := Lib.hid h1
  clear h1
  go_wp2_with fail; refine (F2.out _).mono ?_; rintro e v2 ⟨q2, rfl, x2, h2⟩; obtain ⟨c2, f2⟩ := x2.rules; have z2 := x2.size
  have H2 := Lib.hid h2
  clear h2
  go_wp2_with fail; refine (Less_ref (H1.out.ext (by repeat (first | with_reducible exact Ext.refl _ | with_reducible apply Ext.drew | with_reducible apply Ext.drewN | with_reducible apply Ext.alloc | ((with_reducible refine Ext.setCell ?_ ?_ _); rotate_left; focus (first | (simp; done) | (simp; omega) | omega)) | with_reducible refine Ext.tr ?_ x1 | with_reducible refine Ext.tr ?_ x2 | with_reducible refine Ext.tr ?_ x3 | with_reducible refine Ext.tr ?_ x4 | with_reducible refine Ext.tr ?_ x5 | with_reducible refine Ext.tr ?_ x6 | with_reducible refine Ext.tr ?_ x7 | with_reducible assumption))) H2.out (by omega)).mono ?_; rintro e v3 ⟨q3, rfl, x3, h3⟩; obtain ⟨c3, f3⟩ := x3.rules; have z3 := x3.size
  have H3 := Lib.hid h3.1
  clear h3
  go_wp2_with fail; refine (Word_ref H3.out).mono ?_; rintro e v4 ⟨rfl, x4⟩; obtain ⟨c4, f4⟩ := x4.rules; have z4 := x4.size
  go_wp2
  go_ret2
  exact ⟨rfl, (by repeat (first | with_reducible exact Ext.refl _ | with_reducible apply Ext.drew | with_reducible apply Ext.drewN | with_reducible apply Ext.alloc | ((with_reducible refine Ext.setCell ?_ ?_ _); rotate_left; focus (first | (simp; done) | (simp; omega) | omega)) | with_reducible refine Ext.tr ?_ x1 | with_reducible refine Ext.tr ?_ x2 | with_reducible refine Ext.tr ?_ x3 | with_reducible refine Ext.tr ?_ x4 | with_reducible refine Ext.tr ?_ x5 | with_reducible refine Ext.tr ?_ x6 | with_reducible refine Ext.tr ?_ x7 | with_reducible assumption))⟩
theorem RefNeg_ref (x : Int) (w : World) (x1 : -9223372036854775808 ≤ x) (x2 : x ≤ 9223372036854775807) :
    Calls Try.prog 67 #[.int .i64 x] w fun e w' => e = .returned (.tuple #[.int .i64 (wv (-x)), .int .i64 (we (-x))]) ∧ Ext w w' := by
  have F1 := Lib.hid (fun u => From_ref x u x1 x2)
  clear x1 x2
  go_enter Try.func67, Try.ntmps67
  go_wp2_with fail; refine (F1.out _).mono ?_; rintro e v1 ⟨q1, rfl, x1, h1⟩; obtain ⟨c1, f1⟩ := x1.rules; have z1 := x1.size
  have H1 := Lib.hid h1
  clear h1
  go_wp2_with fail; refine (Neg_ref H1.out).mono ?_; rintro e v2 ⟨q2, rfl, x2, h2⟩; obtain ⟨c2, f2⟩ := x2.rules; have z2 := x2.size
  have H2 := Lib.hid h2
  clear h2
  go_wp2_with fail; refine (Word_ref H2.out).mono ?_; rintro e v3 ⟨rfl, x3⟩; obtain ⟨c3, f3⟩ := x3.rules; have z3 := x3.size
  go_wp2
  go_ret2
  exact ⟨rfl, (by repeat (first | with_reducible exact Ext.refl _ | with_reducible apply Ext.drew | with_reducible apply Ext.drewN | with_reducible apply Ext.alloc | ((with_reducible refine Ext.setCell ?_ ?_ _); rotate_left; focus (first | (simp; done) | (simp; omega) | omega)) | with_reducible refine Ext.tr ?_ x1 | with_reducible refine Ext.tr ?_ x2 | with_reducible refine Ext.tr ?_ x3 | with_reducible refine Ext.tr ?_ x4 | with_reducible refine Ext.tr ?_ x5 | with_reducible refine Ext.tr ?_ x6 | with_reducible refine Ext.tr ?_ x7 | with_reducible assumption))⟩
theorem RefMul_ref (x y f : Int) (w : World) (x1 : -9223372036854775808 ≤ x) (x2 : x ≤ 9223372036854775807) (y1 : -9223372036854775808 ≤ y) (y2 : y ≤ 9223372036854775807) (f0 : 0 ≤ f) (f1 : f < 64) :
    Calls Try.prog 68 #[.int .i64 x, .int .i64 y, .int .i64 f] w fun e w' => e = .returned (.tuple #[.int .i64 (wv (near (x * y) (p2 f))), .int .i64 (we (near (x * y) (p2 f)))]) ∧ Ext w w' := by
  have F1 := Lib.hid (fun u => From_ref x u x1 x2)
  have F2 := Lib.hid (fun u => From_ref y u y1 y2)
  have F3 := Lib.hid (fun u => NOf_any 1 u (by omega) (by omega))
  have P := Lib.hid (p2_pos f)
  clear x1 x2 y1 y2
  go_enter Try.func68, Try.ntmps68
  go_wp2_with fail; refine (F1.out _).mono ?_; rintro e v1 ⟨q1, rfl, x1, h1⟩; obtain ⟨c1, f1⟩ := x1.rules; have z1 := x1.size
  have H1 := Lib.hid h1
  clear h1
  go_wp2_with fail; refine (F2.out _).mono ?_; rintro e v2 ⟨q2, rfl, x2, h2⟩; obtain ⟨c2, f2⟩ := x2.rules; have z2 := x2.size
  have H2 := Lib.hid h2
  clear h2
  go_wp2_with fail; refine (Times_ref (H1.out.ext (by repeat (first | with_reducible exact Ext.refl _ | with_reducible apply Ext.drew | with_reducible apply Ext.drewN | with_reducible apply Ext.alloc | ((with_reducible refine Ext.setCell ?_ ?_ _); rotate_left; focus (first | (simp; done) | (simp; omega) | omega)) | with_reducible refine Ext.tr ?_ x1 | with_reducible refine Ext.tr ?_ x2 | with_reducible refine Ext.tr ?_ x3 | with_reducible refine Ext.tr ?_ x4 | with_reducible refine Ext.tr ?_ x5 | with_reducible refine Ext.tr ?_ x6 | with_reducible refine Ext.tr ?_ x7 | with_reducible assumption))) H2.out (by omega)).mono ?_; rintro e v3 ⟨q3, rfl, x3, h3⟩; obtain ⟨c3, f3⟩ := x3.rules; have z3 := x3.size
  have H3 := Lib.hid h3.1
  clear h3
  go_wp2_with fail; refine (F3.out _).mono ?_; rintro e v4 ⟨q4, rfl, x4, h4⟩; obtain ⟨c4, f4⟩ := x4.rules; have z4 := x4.size
  have H4 := Lib.hid h4
  clear h4
  go_wp2_with fail; refine (Up2_p2 H4.out (by omega) f0 (by omega) (show 1 + f.toNat / 64 + 1 ≤ 2 by omega)).mono ?_; rintro e v5 ⟨q5, rfl, x5, h5⟩; obtain ⟨c5, f5⟩ := x5.rules; have z5 := x5.size
  rw [Int.one_mul] at h5
  have H5 := Lib.hid h5
  clear h5
  go_wp2_with fail; refine (Make_ref (H3.out.ext (by repeat (first | with_reducible exact Ext.refl _ | with_reducible apply Ext.drew | with_reducible apply Ext.drewN | with_reducible apply Ext.alloc | ((with_reducible refine Ext.setCell ?_ ?_ _); rotate_left; focus (first | (simp; done) | (simp; omega) | omega)) | with_reducible refine Ext.tr ?_ x1 | with_reducible refine Ext.tr ?_ x2 | with_reducible refine Ext.tr ?_ x3 | with_reducible refine Ext.tr ?_ x4 | with_reducible refine Ext.tr ?_ x5 | with_reducible refine Ext.tr ?_ x6 | with_reducible refine Ext.tr ?_ x7 | with_reducible assumption))) H5.out P.out (by omega)).mono ?_; rintro e v6 ⟨v, n', d', g, rfl, x6, g0, e1, e2, d0, h6, -⟩; obtain ⟨c6, f6⟩ := x6.rules; have z6 := x6.size
  have H6 := Lib.hid h6
  have e := near_gcd g0 e1 e2
  have nr := fun (u : World) (x : Ext v6 u) => Near_ref (H6.out.ext x) d0 (by omega)
  rw [← e] at nr
  have NR := Lib.hid nr
  clear h6 e1 e2 e nr
  go_wp2_with fail; refine (NR.out _ (by repeat (first | with_reducible exact Ext.refl _ | with_reducible apply Ext.drew | with_reducible apply Ext.drewN | with_reducible apply Ext.alloc | ((with_reducible refine Ext.setCell ?_ ?_ _); rotate_left; focus (first | (simp; done) | (simp; omega) | omega)) | with_reducible refine Ext.tr ?_ x1 | with_reducible refine Ext.tr ?_ x2 | with_reducible refine Ext.tr ?_ x3 | with_reducible refine Ext.tr ?_ x4 | with_reducible refine Ext.tr ?_ x5 | with_reducible refine Ext.tr ?_ x6 | with_reducible refine Ext.tr ?_ x7 | with_reducible assumption))).mono ?_; rintro e v7 ⟨rfl, x7⟩; obtain ⟨c7, f7⟩ := x7.rules; have z7 := x7.size
  go_wp2
  go_ret2
  exact ⟨rfl, (by repeat (first | with_reducible exact Ext.refl _ | with_reducible apply Ext.drew | with_reducible apply Ext.drewN | with_reducible apply Ext.alloc | ((with_reducible refine Ext.setCell ?_ ?_ _); rotate_left; focus (first | (simp; done) | (simp; omega) | omega)) | with_reducible refine Ext.tr ?_ x1 | with_reducible refine Ext.tr ?_ x2 | with_reducible refine Ext.tr ?_ x3 | with_reducible refine Ext.tr ?_ x4 | with_reducible refine Ext.tr ?_ x5 | with_reducible refine Ext.tr ?_ x6 | with_reducible refine Ext.tr ?_ x7 | with_reducible assumption))⟩
theorem RefClose_ref (h l n : Int) (w : World) (h1 : -9223372036854775808 ≤ h) (h2 : h ≤ 9223372036854775807) (l1 : 0 ≤ l) (l2 : l < 18446744073709551616) (n0 : 0 ≤ n) (n1 : n ≤ 126) :
    Calls Try.prog 70 #[.agg #[.int .i64 h, .int .u64 l], .int .i64 n] w fun e w' => e = .returned (.tuple #[.int .i64 (wv (near (h * 18446744073709551616 + l) (p2 n))), .int .i64 (we (near (h * 18446744073709551616 + l) (p2 n)))]) ∧ Ext w w' := by
  have F1 := Lib.hid (fun u => Int1_ref h l u h1 h2 l1 l2)
  have F3 := Lib.hid (fun u => NOf_any 1 u (by omega) (by omega))
  have P := Lib.hid (p2_pos n)
  clear h1 h2 l1 l2
  generalize h * 18446744073709551616 + l = x at *
  go_enter Try.func70, Try.ntmps70
  go_wp2_with fail; refine (F1.out _).mono ?_; rintro e v1 ⟨q1, rfl, x1, h1⟩; obtain ⟨c1, f1⟩ := x1.rules; have z1 := x1.size
  have H1 := Lib.hid h1
  clear h1
  go_wp2_with fail; refine (F3.out _).mono ?_; rintro e v4 ⟨q4, rfl, x4, h4⟩; obtain ⟨c4, f4⟩ := x4.rules; have z4 := x4.size
  have H4 := Lib.hid h4
  clear h4
  go_wp2_with fail; refine (Up2_p2 H4.out (by omega) n0 (by omega) (show 1 + n.toNat / 64 + 1 ≤ 4 by omega)).mono ?_; rintro e v5 ⟨q5, rfl, x5, h5⟩; obtain ⟨c5, f5⟩ := x5.rules; have z5 := x5.size
  rw [Int.one_mul] at h5
  have H5 := Lib.hid h5
  clear h5
  go_wp2_with fail; refine (Make_ref (H1.out.ext (by repeat (first | with_reducible exact Ext.refl _ | with_reducible apply Ext.drew | with_reducible apply Ext.drewN | with_reducible apply Ext.alloc | ((with_reducible refine Ext.setCell ?_ ?_ _); rotate_left; focus (first | (simp; done) | (simp; omega) | omega)) | with_reducible refine Ext.tr ?_ x1 | with_reducible refine Ext.tr ?_ x2 | with_reducible refine Ext.tr ?_ x3 | with_reducible refine Ext.tr ?_ x4 | with_reducible refine Ext.tr ?_ x5 | with_reducible refine Ext.tr ?_ x6 | with_reducible refine Ext.tr ?_ x7 | with_reducible assumption))) H5.out P.out (by omega)).mono ?_; rintro e v6 ⟨v, n', d', g, rfl, x6, g0, e1, e2, d0, h6, -⟩; obtain ⟨c6, f6⟩ := x6.rules; have z6 := x6.size
  have H6 := Lib.hid h6
  have e := near_gcd g0 e1 e2
  have nr := fun (u : World) (x : Ext v6 u) => Near_ref (H6.out.ext x) d0 (by omega)
  rw [← e] at nr
  have NR := Lib.hid nr
  clear h6 e1 e2 e nr
  go_wp2_with fail; refine (NR.out _ (by repeat (first | with_reducible exact Ext.refl _ | with_reducible apply Ext.drew | with_reducible apply Ext.drewN | with_reducible apply Ext.alloc | ((with_reducible refine Ext.setCell ?_ ?_ _); rotate_left; focus (first | (simp; done) | (simp; omega) | omega)) | with_reducible refine Ext.tr ?_ x1 | with_reducible refine Ext.tr ?_ x2 | with_reducible refine Ext.tr ?_ x3 | with_reducible refine Ext.tr ?_ x4 | with_reducible refine Ext.tr ?_ x5 | with_reducible refine Ext.tr ?_ x6 | with_reducible refine Ext.tr ?_ x7 | with_reducible assumption))).mono ?_; rintro e v7 ⟨rfl, x7⟩; obtain ⟨c7, f7⟩ := x7.rules; have z7 := x7.size
  go_wp2
  go_ret2
  exact ⟨rfl, (by repeat (first | with_reducible exact Ext.refl _ | with_reducible apply Ext.drew | with_reducible apply Ext.drewN | with_reducible apply Ext.alloc | ((with_reducible refine Ext.setCell ?_ ?_ _); rotate_left; focus (first | (simp; done) | (simp; omega) | omega)) | with_reducible refine Ext.tr ?_ x1 | with_reducible refine Ext.tr ?_ x2 | with_reducible refine Ext.tr ?_ x3 | with_reducible refine Ext.tr ?_ x4 | with_reducible refine Ext.tr ?_ x5 | with_reducible refine Ext.tr ?_ x6 | with_reducible refine Ext.tr ?_ x7 | with_reducible assumption))⟩
theorem RefDiv_0 (x f : Int) (w : World) :
    Calls Try.prog 69 #[.int .i64 x, .int .i64 0, .int .i64 f] w fun e w' => e = .returned (.tuple #[.int .i64 0, .int .i64 4]) ∧ Ext w w' := by
  go_enter Try.func69, Try.ntmps69
  go_wp2
  go_ret2
  exact ⟨rfl, (by repeat (first | with_reducible exact Ext.refl _ | with_reducible apply Ext.drew | with_reducible apply Ext.drewN | with_reducible apply Ext.alloc | ((with_reducible refine Ext.setCell ?_ ?_ _); rotate_left; focus (first | (simp; done) | (simp; omega) | omega)) | with_reducible refine Ext.tr ?_ x1 | with_reducible refine Ext.tr ?_ x2 | with_reducible refine Ext.tr ?_ x3 | with_reducible refine Ext.tr ?_ x4 | with_reducible refine Ext.tr ?_ x5 | with_reducible refine Ext.tr ?_ x6 | with_reducible refine Ext.tr ?_ x7 | with_reducible assumption))⟩
theorem RefDiv_ref (x y f : Int) (w : World) (x1 : -9223372036854775808 ≤ x) (x2 : x ≤ 9223372036854775807) (y1 : -9223372036854775808 ≤ y) (y2 : y ≤ 9223372036854775807) (f0 : 0 ≤ f) (f1 : f < 64) :
    Calls Try.prog 69 #[.int .i64 x, .int .i64 y, .int .i64 f] w fun e w' => e = .returned (.tuple #[.int .i64 (dv x y f), .int .i64 (de x y f)]) ∧ Ext w w' := by
  by_cases h : y = 0
  · subst h; exact RefDiv_0 x f w
  · rw [dv_ok h, de_ok h, rdiv_near _ _ h, show (if y < 0 then -(x * p2 f) else x * p2 f) = sgd y (x * p2 f) from rfl]
    have F1 := Lib.hid (fun u => From_ref x u x1 x2)
    have F2 := Lib.hid (fun u => From_ref y u y1 y2)
    have z : (y == 0) = false := by rw [beq_eq_false_iff_ne]; exact h
    clear x1 x2 y1 y2
    go_enter Try.func69, Try.ntmps69
    go_wp2_with fail; refine (F1.out _).mono ?_; rintro e v1 ⟨q1, rfl, x1, h1⟩; obtain ⟨c1, f1⟩ := x1.rules; have z1 := x1.size
    have H1 := Lib.hid h1
    clear h1
    go_wp2_with fail; refine (F2.out _).mono ?_; rintro e v2 ⟨q2, rfl, x2, h2⟩; obtain ⟨c2, f2⟩ := x2.rules; have z2 := x2.size
    have H2 := Lib.hid h2
    clear h2
    go_wp2_with fail
    refine (Over_ref (H1.out.ext (by repeat (first | with_reducible exact Ext.refl _ | with_reducible apply Ext.drew | with_reducible apply Ext.drewN | with_reducible apply Ext.alloc | ((with_reducible refine Ext.setCell ?_ ?_ _); rotate_left; focus (first | (simp; done) | (simp; omega) | omega)) | with_reducible refine Ext.tr ?_ x1 | with_reducible refine Ext.tr ?_ x2 | with_reducible refine Ext.tr ?_ x3 | with_reducible refine Ext.tr ?_ x4 | with_reducible refine Ext.tr ?_ x5 | with_reducible refine Ext.tr ?_ x6 | with_reducible refine Ext.tr ?_ x7 | with_reducible assumption))) H2.out h (by omega) f0 (by omega) (show 1 + f.toNat / 64 + 1 ≤ 2 by omega) (by omega)).mono ?_; rintro e v3 ⟨v, n', d', g, rfl, x3, g0, e1, e2, d0, h6⟩; obtain ⟨c3, f3⟩ := x3.rules; have z3 := x3.size
    have H6 := Lib.hid h6
    have e := near_gcd g0 e1 e2
    have nr := fun (u : World) (x : Ext v3 u) => Near_ref (H6.out.ext x) d0 (by omega)
    rw [← e] at nr
    have NR := Lib.hid nr
    clear h6 e1 e2 e nr
    go_wp2_with fail; refine (NR.out _ (by repeat (first | with_reducible exact Ext.refl _ | with_reducible apply Ext.drew | with_reducible apply Ext.drewN | with_reducible apply Ext.alloc | ((with_reducible refine Ext.setCell ?_ ?_ _); rotate_left; focus (first | (simp; done) | (simp; omega) | omega)) | with_reducible refine Ext.tr ?_ x1 | with_reducible refine Ext.tr ?_ x2 | with_reducible refine Ext.tr ?_ x3 | with_reducible refine Ext.tr ?_ x4 | with_reducible refine Ext.tr ?_ x5 | with_reducible refine Ext.tr ?_ x6 | with_reducible refine Ext.tr ?_ x7 | with_reducible assumption))).mono ?_; rintro e v7 ⟨rfl, x7⟩; obtain ⟨c7, f7⟩ := x7.rules; have z7 := x7.size
    go_wp2
    go_ret2
    exact ⟨rfl, (by repeat (first | with_reducible exact Ext.refl _ | with_reducible apply Ext.drew | with_reducible apply Ext.drewN | with_reducible apply Ext.alloc | ((with_reducible refine Ext.setCell ?_ ?_ _); rotate_left; focus (first | (simp; done) | (simp; omega) | omega)) | with_reducible refine Ext.tr ?_ x1 | with_reducible refine Ext.tr ?_ x2 | with_reducible refine Ext.tr ?_ x3 | with_reducible refine Ext.tr ?_ x4 | with_reducible refine Ext.tr ?_ x5 | with_reducible refine Ext.tr ?_ x6 | with_reducible refine Ext.tr ?_ x7 | with_reducible assumption))⟩
end Go.Proofs.Ytielcbpjnjdlmaa
