/- fx: Add, Sub, Neg, Mul, Div, Ratio, Close of whatever arguments. -/
import Derived.Test.YtielcbpjnjdlmaaCloses
namespace Go.Proofs.Ytielcbpjnjdlmaa
open Go.RowKit
def sel (c : Bool) (x y : Int) : Int := if c then x else y
theorem sel_t (x y : Int) : sel true x y = x := rfl
theorem sel_f (x y : Int) : sel false x y = y := rfl
theorem Add_all (a b : Int) (w : World) :
    Calls Try.prog 55 #[.int .i64 a, .int .i64 b] w fun e w' => e = .returned (.tuple #[.int .i64 (sel (gd a && gd b) (wv (a + b)) 0), .int .i64 (sel (gd a && gd b) (we (a + b)) 1)]) ∧ Ext w w' := by
  cases h : (gd a && gd b)
  · have R := Lib.hid (fun u => reckon_bad 0 a b 8 u (by rw [h]; rfl))
    clear h
    go_enter Try.func55, Try.ntmps55
    go_wp2_with fail; refine (R.out _).mono ?_; rintro e w' ⟨rfl, rfl⟩
    go_wp2
    go_ret2
    exact ⟨rfl, (by repeat (first | with_reducible exact Ext.refl _ | with_reducible apply Ext.drew | with_reducible apply Ext.drewN | with_reducible apply Ext.alloc | ((with_reducible refine Ext.setCell ?_ ?_ _); rotate_left; focus (first | (simp; done) | (simp; omega) | omega)) | with_reducible refine Ext.tr ?_ x1 | with_reducible refine Ext.tr ?_ x2 | with_reducible refine Ext.tr ?_ x3 | with_reducible refine Ext.tr ?_ x4 | with_reducible refine Ext.tr ?_ x5 | with_reducible refine Ext.tr ?_ x6 | with_reducible refine Ext.tr ?_ x7 | with_reducible refine Ext.tr ?_ x8 | with_reducible refine Ext.tr ?_ x9 | with_reducible refine Ext.tr ?_ xa | with_reducible refine Ext.tr ?_ xb | with_reducible refine Ext.tr ?_ xc | with_reducible refine Ext.tr ?_ xd | with_reducible refine Ext.tr ?_ xe | with_reducible refine Ext.tr ?_ xf | with_reducible refine Ext.tr ?_ xg | with_reducible refine Ext.tr ?_ hx | with_reducible refine Ext.tr ?_ hext | with_reducible assumption))⟩
  · rw [Bool.and_eq_true] at h
    exact Add_any a b w (gd_iff.1 h.1) (gd_iff.1 h.2)
theorem Sub_all (a b : Int) (w : World) :
    Calls Try.prog 56 #[.int .i64 a, .int .i64 b] w fun e w' => e = .returned (.tuple #[.int .i64 (sel (gd a && gd b) (wv (a - b)) 0), .int .i64 (sel (gd a && gd b) (we (a - b)) 1)]) ∧ Ext w w' := by
  cases h : (gd a && gd b)
  · have R := Lib.hid (fun u => reckon_bad 1 a b 8 u (by rw [h]; rfl))
    clear h
    go_enter Try.func56, Try.ntmps56
    go_wp2_with fail; refine (R.out _).mono ?_; rintro e w' ⟨rfl, rfl⟩
    go_wp2
    go_ret2
    exact ⟨rfl, (by repeat (first | with_reducible exact Ext.refl _ | with_reducible apply Ext.drew | with_reducible apply Ext.drewN | with_reducible apply Ext.alloc | ((with_reducible refine Ext.setCell ?_ ?_ _); rotate_left; focus (first | (simp; done) | (simp; omega) | omega)) | with_reducible refine Ext.tr ?_ x1 | with_reducible refine Ext.tr ?_ x2 | with_reducible refine Ext.tr ?_ x3 | with_reducible refine Ext.tr ?_ x4 | with_reducible refine Ext.tr ?_ x5 | with_reducible refine Ext.tr ?_ x6 | with_reducible refine Ext.tr ?_ x7 | with_reducible refine Ext.tr ?_ x8 | with_reducible refine Ext.tr ?_ x9 | with_reducible refine Ext.tr ?_ xa | with_reducible refine Ext.tr ?_ xb | with_reducible refine Ext.tr ?_ xc | with_reducible refine Ext.tr ?_ xd | with_reducible refine Ext.tr ?_ xe | with_reducible refine Ext.tr ?_ xf | with_reducible refine Ext.tr ?_ xg | with_reducible refine Ext.tr ?_ hx | with_reducible refine Ext.tr ?_ hext | with_reducible assumption))⟩
  · rw [Bool.and_eq_true] at h
    exact Sub_any a b w (gd_iff.1 h.1) (gd_iff.1 h.2)
theorem Neg_all (a : Int) (w : World) :
    Calls Try.prog 57 #[.int .i64 a] w fun e w' => e = .returned (.tuple #[.int .i64 (sel (gd a) (wv (-a)) 0), .int .i64 (sel (gd a) (we (-a)) 1)]) ∧ Ext w w' := by
  cases h : gd a
  · have R := Lib.hid (fun u => reckon_bad 1 0 a 8 u (by rw [h]; rfl))
    clear h
    go_enter Try.func57, Try.ntmps57
    go_wp2_with fail; refine (R.out _).mono ?_; rintro e w' ⟨rfl, rfl⟩
    go_wp2
    go_ret2
    exact ⟨rfl, (by repeat (first | with_reducible exact Ext.refl _ | with_reducible apply Ext.drew | with_reducible apply Ext.drewN | with_reducible apply Ext.alloc | ((with_reducible refine Ext.setCell ?_ ?_ _); rotate_left; focus (first | (simp; done) | (simp; omega) | omega)) | with_reducible refine Ext.tr ?_ x1 | with_reducible refine Ext.tr ?_ x2 | with_reducible refine Ext.tr ?_ x3 | with_reducible refine Ext.tr ?_ x4 | with_reducible refine Ext.tr ?_ x5 | with_reducible refine Ext.tr ?_ x6 | with_reducible refine Ext.tr ?_ x7 | with_reducible refine Ext.tr ?_ x8 | with_reducible refine Ext.tr ?_ x9 | with_reducible refine Ext.tr ?_ xa | with_reducible refine Ext.tr ?_ xb | with_reducible refine Ext.tr ?_ xc | with_reducible refine Ext.tr ?_ xd | with_reducible refine Ext.tr ?_ xe | with_reducible refine Ext.tr ?_ xf | with_reducible refine Ext.tr ?_ xg | with_reducible refine Ext.tr ?_ hx | with_reducible refine Ext.tr ?_ hext | with_reducible assumption))⟩
  · have g : gd (-a) = true := by rw [gd_neg]; exact h
    rw [sel_t, sel_t, wv_of g, we_of g]
    exact Neg_any a w (gd_iff.1 h)
theorem Mul_all (a b f : Int) (w : World) :
    Calls Try.prog 38 #[.int .i64 a, .int .i64 b, .int .i64 f] w fun e w' => e = .returned (.tuple #[.int .i64 (sel (gd a && gd b && gdF f) (wv (near (a * b) (p2 f))) 0), .int .i64 (sel (gd a && gd b && gdF f) (we (near (a * b) (p2 f))) 1)]) ∧ Ext w w' := by
  cases h : (gd a && gd b && gdF f)
  · have R := Lib.hid (fun u => reckon_bad 2 a b f u h)
    clear h
    go_enter Try.func38, Try.ntmps38
    go_wp2_with fail; refine (R.out _).mono ?_; rintro e w' ⟨rfl, rfl⟩
    go_wp2
    go_ret2
    exact ⟨rfl, (by repeat (first | with_reducible exact Ext.refl _ | with_reducible apply Ext.drew | with_reducible apply Ext.drewN | with_reducible apply Ext.alloc | ((with_reducible refine Ext.setCell ?_ ?_ _); rotate_left; focus (first | (simp; done) | (simp; omega) | omega)) | with_reducible refine Ext.tr ?_ x1 | with_reducible refine Ext.tr ?_ x2 | with_reducible refine Ext.tr ?_ x3 | with_reducible refine Ext.tr ?_ x4 | with_reducible refine Ext.tr ?_ x5 | with_reducible refine Ext.tr ?_ x6 | with_reducible refine Ext.tr ?_ x7 | with_reducible refine Ext.tr ?_ x8 | with_reducible refine Ext.tr ?_ x9 | with_reducible refine Ext.tr ?_ xa | with_reducible refine Ext.tr ?_ xb | with_reducible refine Ext.tr ?_ xc | with_reducible refine Ext.tr ?_ xd | with_reducible refine Ext.tr ?_ xe | with_reducible refine Ext.tr ?_ xf | with_reducible refine Ext.tr ?_ xg | with_reducible refine Ext.tr ?_ hx | with_reducible refine Ext.tr ?_ hext | with_reducible assumption))⟩
  · rw [Bool.and_eq_true, Bool.and_eq_true] at h
    exact Mul_any a b f w (gd_iff.1 h.1.1) (gd_iff.1 h.1.2) h.2
theorem Div_all (a b f : Int) (w : World) :
    Calls Try.prog 39 #[.int .i64 a, .int .i64 b, .int .i64 f] w fun e w' => e = .returned (.tuple #[.int .i64 (sel (gd a && gd b && gdF f) (dv a b f) 0), .int .i64 (sel (gd a && gd b && gdF f) (de a b f) 1)]) ∧ Ext w w' := by
  cases h : (gd a && gd b && gdF f)
  · have R := Lib.hid (fun u => reckon_bad 3 a b f u h)
    clear h
    go_enter Try.func39, Try.ntmps39
    go_wp2_with fail; refine (R.out _).mono ?_; rintro e w' ⟨rfl, rfl⟩
    go_wp2
    go_ret2
    exact ⟨rfl, (by repeat (first | with_reducible exact Ext.refl _ | with_reducible apply Ext.drew | with_reducible apply Ext.drewN | with_reducible apply Ext.alloc | ((with_reducible refine Ext.setCell ?_ ?_ _); rotate_left; focus (first | (simp; done) | (simp; omega) | omega)) | with_reducible refine Ext.tr ?_ x1 | with_reducible refine Ext.tr ?_ x2 | with_reducible refine Ext.tr ?_ x3 | with_reducible refine Ext.tr ?_ x4 | with_reducible refine Ext.tr ?_ x5 | with_reducible refine Ext.tr ?_ x6 | with_reducible refine Ext.tr ?_ x7 | with_reducible refine Ext.tr ?_ x8 | with_reducible refine Ext.tr ?_ x9 | with_reducible refine Ext.tr ?_ xa | with_reducible refine Ext.tr ?_ xb | with_reducible refine Ext.tr ?_ xc | with_reducible refine Ext.tr ?_ xd | with_reducible refine Ext.tr ?_ xe | with_reducible refine Ext.tr ?_ xf | with_reducible refine Ext.tr ?_ xg | with_reducible refine Ext.tr ?_ hx | with_reducible refine Ext.tr ?_ hext | with_reducible assumption))⟩
  · rw [Bool.and_eq_true, Bool.and_eq_true] at h
    exact Div_any a b f w (gd_iff.1 h.1.1) (gd_iff.1 h.1.2) h.2
theorem Ratio_all (a d f : Int) (w : World) (a1 : -9223372036854775808 ≤ a) (a2 : a < 9223372036854775808) (d1 : -9223372036854775808 ≤ d) (d2 : d < 9223372036854775808) :
    Calls Try.prog 62 #[.int .i64 a, .int .i64 d, .int .i64 f] w fun e w' => e = .returned (.tuple #[.int .i64 (sel (gdF f) (dv a d f) 0), .int .i64 (sel (gdF f) (de a d f) 1)]) ∧ Ext w w' := by
  cases h : gdF f
  · exact Ratio_bad a d f w h
  · exact Ratio_any a d f w a1 a2 d1 d2 h
def kb (k : Int) : Bool := decide (0 ≤ k ∧ k ≤ 126)
theorem Close_all (h l n : Int) (w : World) (h1 : -9223372036854775808 ≤ h) (h2 : h < 9223372036854775808) (l1 : 0 ≤ l) (l2 : l < 18446744073709551616) :
    Calls Try.prog 58 #[.agg #[.int .i64 h, .int .u64 l], .int .i64 n] w fun e w' => e = .returned (.tuple #[.int .i64 (sel (kb n) (wv (near (h * 18446744073709551616 + l) (p2 n))) 0), .int .i64 (sel (kb n) (we (near (h * 18446744073709551616 + l) (p2 n))) 1)]) ∧ Ext w w' := by
  have e1 : hi (h * 18446744073709551616 + l) = h := by unfold hi; omega
  have e2 : lo (h * 18446744073709551616 + l) = l := by unfold lo; omega
  cases hk : kb n
  · have b := Close_bad (h * 18446744073709551616 + l) n w (by simp [kb] at hk; omega)
    rw [e1, e2] at b
    exact b
  · have b := Close_any (h * 18446744073709551616 + l) n w (by constructor <;> omega) (by simp [kb] at hk; omega) (by simp [kb] at hk; omega)
    rw [e1, e2] at b
    exact b
theorem checkF_all (f : Int) (w : World) :
    Calls Try.prog 64 #[.int .i64 f] w fun e w' => e = .returned (.int .i64 (sel (gdF f) 0 1)) ∧ w = w' := by
  cases h : gdF f
  all_goals
    have G := fun u => goodF_any f u
    rw [h] at G
    have G' := Lib.hid G
    clear G h
    go_enter Try.func64, Try.ntmps64
    go_wp2_with fail; refine (G'.out _).mono ?_; rintro e w' ⟨rfl, rfl⟩
    go_wp2
    go_ret
    exact ⟨rfl, rfl⟩
theorem check_all (v : Int) (w : World) :
    Calls Try.prog 36 #[.int .i64 v] w fun e w' => e = .returned (.int .i64 (sel (gd v) 0 1)) ∧ w = w' := check_any v w
theorem mayF2_any (f : Int) (w : World) :
    Calls Try.prog 63 #[.int .i64 f] w fun e w' => e = .returned (.bool (gdF f)) ∧ w = w' := by
  by_cases h1 : 8 ≤ f
  · by_cases h2 : f ≤ 32
    · have g : gdF f = true := gdF_iff.2 ⟨h1, h2⟩
      rw [g]
      clear g
      go_enter Try.func63, Try.ntmps63
      go_wp2
      go_ret
      exact ⟨rfl, rfl⟩
    · have g : gdF f = false := by simp [gdF]; omega
      rw [g]
      clear g
      go_enter Try.func63, Try.ntmps63
      go_wp2
      go_ret
      exact ⟨rfl, rfl⟩
  · have g : gdF f = false := by simp [gdF]; omega
    rw [g]
    clear g
    go_enter Try.func63, Try.ntmps63
    go_wp2
    go_ret
    exact ⟨rfl, rfl⟩
theorem is2_any (v e : Int) (w : World) :
    Calls Try.prog 71 #[.int .i64 v, .int .i64 e, .int .i64 v, .int .i64 e] w fun x w' => x = .returned (.bool true) ∧ w = w' := by
  go_enter Try.func71, Try.ntmps71
  go_wp2_with fail; refine (num2_any _ _).mono ?_; rintro e w' ⟨rfl, rfl⟩
  go_wp2
  go_ret
  exact ⟨rfl, rfl⟩
end Go.Proofs.Ytielcbpjnjdlmaa
