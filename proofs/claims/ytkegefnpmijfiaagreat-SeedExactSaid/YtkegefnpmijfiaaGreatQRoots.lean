/- root.Sqrt and root.Rsqrt. -/
import Derived.Test.YtkegefnpmijfiaaGreatQNearsP
import Derived.Test.YtkegefnpmijfiaaGreatQWFl
import Derived.Test.YtkegefnpmijfiaaGreatQNearBig
namespace Go.Proofs.YtkegefnpmijfiaaGreat
open Go.RowKit
theorem sqrt_n {a f : Int} (ha : gd a = true) (hf : gdF f = true) (a0 : 0 ≤ a) : 0 ≤ a * p2 f ∧ a * p2 f < 604462909807314587353088 := by
  obtain ⟨p1, p2'⟩ := p2_gdF hf
  obtain ⟨_, a1⟩ := gd_iff.1 ha
  have x := Int.mul_le_mul (show a ≤ 140737488355327 by omega) p2' (by omega) (by omega)
  exact ⟨Int.mul_nonneg a0 (by omega), by omega⟩
theorem sqrt_gd {a f r : Int} (ha : gd a = true) (hf : gdF f = true) (a0 : 0 ≤ a) (h : NearRoot (a * p2 f) 1 r) : gd r = true := by
  have n := (sqrt_n ha hf a0).2
  have l := near_root_lt (m := 140737488355328) (by omega) (by omega) h (by omega)
  exact gd_t (by have := h.1; omega) l
set_option maxRecDepth 100000 in
theorem sqrt_ok (a f : Int) (w : World) (ha : gd a = true) (hf : gdF f = true) (a0 : 0 ≤ a) :
    Calls Tryz.prog 194 #[.int .i64 a, .int .i64 f] w fun e w' => ∃ r, e = .returned (.tuple #[.int .i64 r, .int .i64 0]) ∧ Ext w w' ∧ NearRoot (a * p2 f) 1 r ∧ gd r = true := by
  have N := Lib.hid (sqrt_n ha hf a0)
  have G := Lib.hid (fun r => sqrt_gd (r := r) ha hf a0)
  obtain ⟨f1, f2⟩ := gdF_iff.1 hf
  obtain ⟨_, a1⟩ := gd_iff.1 ha
  have L2 := Lib.hid (fun (v : World) (q : Value) (h : IntAt v q a 1) => wLeft_p2 (n := f) (L' := 3) h (by omega) (by omega) (by omega) (by omega))
  have FR := Lib.hid (fun v => wFrom_new a v a0 (by omega))
  have ng : decide (a < 0) = false := by simp; omega
  clear a1
  go_enter Tryz.func194, Tryz.ntmps194
  go_wp2_with fail; refine (good_any _ _).mono ?_; rintro e w' ⟨rfl, rfl⟩
  go_wp2_with fail; refine (goodF_any _ _).mono ?_; rintro e w' ⟨rfl, rfl⟩
  go_wp2_with fail; refine (FR.out _).mono ?_; rintro e v1 ⟨q1, rfl, x1, h1⟩; obtain ⟨c1, f1⟩ := x1.rules; have z1 := x1.size
  have H1 := Lib.hid h1.1
  clear h1
  go_wp2_with fail; refine (L2.out _ _ H1.out).mono ?_; rintro e v2 ⟨q2, rfl, x2, h2⟩; obtain ⟨c2, f2⟩ := x2.rules; have z2 := x2.size
  have H2 := Lib.hid h2.1
  clear h2
  go_wp2_with fail; refine (wOne_new _).mono ?_; rintro e v3 ⟨q3, rfl, x3, h3⟩; obtain ⟨c3, f3⟩ := x3.rules; have z3 := x3.size
  have H3 := Lib.hid h3.1
  clear h3
  go_wp2_with fail; refine (nearest_ref (H2.out.ext Ext.q) H3.out N.out.1 (Int.lt_trans N.out.2 (by decide)) (by omega)).mono ?_; rintro e v4 ⟨q4, r, rfl, x4, h4, nr, n4⟩; obtain ⟨c4, f4⟩ := x4.rules; have z4 := x4.size
  have H4 := Lib.hid h4
  have NR := Lib.hid nr
  have GR := Lib.hid (G.out r nr)
  clear h4 nr n4 G N L2 FR
  have FF := Lib.hid (fun v h => fxFrom_ref (v := q4) (x := r) (L := 2) (w := v) h)
  rw [wv_of GR.out, we_of GR.out] at FF
  go_wp2_with fail; refine (FF.out _ H4.out).mono ?_; rintro e v5 ⟨rfl, x5⟩; obtain ⟨c5, f5⟩ := x5.rules; have z5 := x5.size
  go_wp2
  go_ret2
  exact ⟨r, rfl, Ext.q, NR.out, GR.out⟩
end Go.Proofs.YtkegefnpmijfiaaGreat
