/- fx: reckon, Add, Sub, Neg, Mul of words; the law's own small functions. -/
import Derived.Test.YtjmecongccjcgaaTimes
namespace Go.Proofs.Ytjmecongccjcgaa
open Go.RowKit
/-- A word. -/
def Wd (a : Int) : Prop := -140737488355328 < a ∧ a < 140737488355328
theorem Wd.g {a : Int} (h : Wd a) : gd a = true := gd_t h.1 h.2
theorem plus_any (a b f : Int) (w : World) (ha : Wd a) (hb : Wd b) :
    Calls Try.prog 131 #[.agg #[.int .i64 a, .int .i64 b, .int .i64 f]] w fun e w' => e = .returned (.tuple #[.int .i64 (wv (a + b)), .int .i64 (we (a + b))]) ∧ Ext w w' := by
  obtain ⟨a1, a2⟩ := ha
  obtain ⟨b1, b2⟩ := hb
  go_enter Try.func131, Try.ntmps131
  go_wp2_with (go_at_call 85; refine (word_any _ _).mono ?_; rintro e w' ⟨rfl, rfl⟩)
  go_ret2
  exact ⟨rfl, (by repeat (first | with_reducible exact Ext.refl _ | with_reducible apply Ext.drew | with_reducible apply Ext.drewN | with_reducible apply Ext.alloc | ((with_reducible refine Ext.setCell ?_ ?_ _); rotate_left; focus (first | (simp; done) | (simp; omega) | omega)) | with_reducible refine Ext.tr ?_ x1 | with_reducible assumption))⟩
theorem less_any (a b f : Int) (w : World) (ha : Wd a) (hb : Wd b) :
    Calls Try.prog 132 #[.agg #[.int .i64 a, .int .i64 b, .int .i64 f]] w fun e w' => e = .returned (.tuple #[.int .i64 (wv (a - b)), .int .i64 (we (a - b))]) ∧ Ext w w' := by
  obtain ⟨a1, a2⟩ := ha
  obtain ⟨b1, b2⟩ := hb
  go_enter Try.func132, Try.ntmps132
  go_wp2_with (go_at_call 85; refine (word_any _ _).mono ?_; rintro e w' ⟨rfl, rfl⟩)
  go_ret2
  exact ⟨rfl, (by repeat (first | with_reducible exact Ext.refl _ | with_reducible apply Ext.drew | with_reducible apply Ext.drewN | with_reducible apply Ext.alloc | ((with_reducible refine Ext.setCell ?_ ?_ _); rotate_left; focus (first | (simp; done) | (simp; omega) | omega)) | with_reducible refine Ext.tr ?_ x1 | with_reducible assumption))⟩
theorem way_0 (w : World) : Calls Try.prog 124 #[.int .i64 0] w fun e w' => e = .returned (.func (.func 131) #[] #[]) ∧ w = w' := by
  go_enter Try.func124, Try.ntmps124
  go_wp2
  go_ret
  exact ⟨rfl, rfl⟩
theorem way_1 (w : World) : Calls Try.prog 124 #[.int .i64 1] w fun e w' => e = .returned (.func (.func 132) #[] #[]) ∧ w = w' := by
  go_enter Try.func124, Try.ntmps124
  go_wp2
  go_ret
  exact ⟨rfl, rfl⟩
theorem way_2 (w : World) : Calls Try.prog 124 #[.int .i64 2] w fun e w' => e = .returned (.func (.func 133) #[] #[]) ∧ w = w' := by
  go_enter Try.func124, Try.ntmps124
  go_wp2
  go_ret
  exact ⟨rfl, rfl⟩
theorem way_3 (w : World) : Calls Try.prog 124 #[.int .i64 3] w fun e w' => e = .returned (.func (.func 134) #[] #[]) ∧ w = w' := by
  go_enter Try.func124, Try.ntmps124
  go_wp2
  go_ret
  exact ⟨rfl, rfl⟩
/-- reckon, of what is in order: it tells what the way of its kind tells. -/
theorem reckon_ok (k a b f : Int) (g : Nat) (r : Value) (w : World) (ha : gd a = true) (hb : gd b = true) (hf : gdF f = true) (v e : Value) (hr : r = .tuple #[v, e])
    (W : ∀ u, Calls Try.prog 124 #[.int .i64 k] u fun e u' => e = .returned (.func (.func g) #[] #[]) ∧ u = u')
    (hcall : ∀ args u, (callFunc g args).run Try.prog u = .ok (.enter g args) u)
    (C : ∀ u, Calls Try.prog g #[.agg #[.int .i64 a, .int .i64 b, .int .i64 f]] u fun e u' => e = .returned r ∧ Ext u u') :
    Calls Try.prog 113 #[.int .i64 k, .int .i64 a, .int .i64 b, .int .i64 f] w fun e w' => e = .returned r ∧ Ext w w' := by
  subst hr
  have W' := Lib.hid W
  have C' := Lib.hid C
  clear W C
  go_enter Try.func113, Try.ntmps113
  go_wp2_with fail; refine (good_any _ _).mono ?_; rintro e w' ⟨rfl, rfl⟩
  go_wp2_with fail; refine (good_any _ _).mono ?_; rintro e w' ⟨rfl, rfl⟩
  go_wp2_with fail; refine (goodF_any _ _).mono ?_; rintro e w' ⟨rfl, rfl⟩
  go_wp2_with fail; refine (W'.out _).mono ?_; rintro e w' ⟨rfl, rfl⟩
  go_wp2_with fail; refine (C'.out _).mono ?_; rintro e v1 ⟨rfl, x1⟩; obtain ⟨c1, f1⟩ := x1.rules; have z1 := x1.size
  go_wp2
  go_ret2
  exact ⟨rfl, (by repeat (first | with_reducible exact Ext.refl _ | with_reducible apply Ext.drew | with_reducible apply Ext.drewN | with_reducible apply Ext.alloc | ((with_reducible refine Ext.setCell ?_ ?_ _); rotate_left; focus (first | (simp; done) | (simp; omega) | omega)) | with_reducible refine Ext.tr ?_ x1 | with_reducible assumption))⟩
/-- reckon, of what is out of order. -/
theorem reckon_bad (k a b f : Int) (w : World) (h : (gd a && gd b && gdF f) = false) :
    Calls Try.prog 113 #[.int .i64 k, .int .i64 a, .int .i64 b, .int .i64 f] w fun e w' => e = .returned (.tuple #[.int .i64 0, .int .i64 1]) ∧ w = w' := by
  cases ha : gd a
  · go_enter Try.func113, Try.ntmps113
    go_wp2_with fail; refine (good_any _ _).mono ?_; rintro e w' ⟨rfl, rfl⟩
    go_wp2
    go_ret2
    exact ⟨rfl, rfl⟩
  · cases hb : gd b
    · go_enter Try.func113, Try.ntmps113
      go_wp2_with fail; refine (good_any _ _).mono ?_; rintro e w' ⟨rfl, rfl⟩
      go_wp2_with fail; refine (good_any _ _).mono ?_; rintro e w' ⟨rfl, rfl⟩
      go_wp2
      go_ret2
      exact ⟨rfl, rfl⟩
    · have hf : gdF f = false := by simpa [ha, hb] using h
      clear h
      go_enter Try.func113, Try.ntmps113
      go_wp2_with fail; refine (good_any _ _).mono ?_; rintro e w' ⟨rfl, rfl⟩
      go_wp2_with fail; refine (good_any _ _).mono ?_; rintro e w' ⟨rfl, rfl⟩
      go_wp2_with fail; refine (goodF_any _ _).mono ?_; rintro e w' ⟨rfl, rfl⟩
      go_wp2
      go_ret2
      exact ⟨rfl, rfl⟩
theorem gdF8 : gdF 8 = true := by decide
theorem Add_any (a b : Int) (w : World) (ha : Wd a) (hb : Wd b) :
    Calls Try.prog 93 #[.int .i64 a, .int .i64 b] w fun e w' => e = .returned (.tuple #[.int .i64 (wv (a + b)), .int .i64 (we (a + b))]) ∧ Ext w w' := by
  have R := Lib.hid (fun v => reckon_ok 0 a b 8 131 _ v ha.g hb.g gdF8 _ _ rfl way_0 (enters_of Try.func131 (by kernel_rfl) rfl) (fun u => plus_any a b 8 u ha hb))
  go_enter Try.func93, Try.ntmps93
  go_wp2_with fail; refine (R.out _).mono ?_; rintro e v1 ⟨rfl, x1⟩; obtain ⟨c1, f1⟩ := x1.rules; have z1 := x1.size
  go_wp2
  go_ret2
  exact ⟨rfl, (by repeat (first | with_reducible exact Ext.refl _ | with_reducible apply Ext.drew | with_reducible apply Ext.drewN | with_reducible apply Ext.alloc | ((with_reducible refine Ext.setCell ?_ ?_ _); rotate_left; focus (first | (simp; done) | (simp; omega) | omega)) | with_reducible refine Ext.tr ?_ x1 | with_reducible assumption))⟩
theorem Sub_any (a b : Int) (w : World) (ha : Wd a) (hb : Wd b) :
    Calls Try.prog 94 #[.int .i64 a, .int .i64 b] w fun e w' => e = .returned (.tuple #[.int .i64 (wv (a - b)), .int .i64 (we (a - b))]) ∧ Ext w w' := by
  have R := Lib.hid (fun v => reckon_ok 1 a b 8 132 _ v ha.g hb.g gdF8 _ _ rfl way_1 (enters_of Try.func132 (by kernel_rfl) rfl) (fun u => less_any a b 8 u ha hb))
  go_enter Try.func94, Try.ntmps94
  go_wp2_with fail; refine (R.out _).mono ?_; rintro e v1 ⟨rfl, x1⟩; obtain ⟨c1, f1⟩ := x1.rules; have z1 := x1.size
  go_wp2
  go_ret2
  exact ⟨rfl, (by repeat (first | with_reducible exact Ext.refl _ | with_reducible apply Ext.drew | with_reducible apply Ext.drewN | with_reducible apply Ext.alloc | ((with_reducible refine Ext.setCell ?_ ?_ _); rotate_left; focus (first | (simp; done) | (simp; omega) | omega)) | with_reducible refine Ext.tr ?_ x1 | with_reducible assumption))⟩
theorem Mul_any (a b f : Int) (w : World) (ha : Wd a) (hb : Wd b) (hf : gdF f = true) :
    Calls Try.prog 95 #[.int .i64 a, .int .i64 b, .int .i64 f] w fun e w' => e = .returned (.tuple #[.int .i64 (wv (near (a * b) (p2 f))), .int .i64 (we (near (a * b) (p2 f)))]) ∧ Ext w w' := by
  obtain ⟨f1, f2⟩ := gdF_iff.1 hf
  have R := Lib.hid (fun v => reckon_ok 2 a b f 133 _ v ha.g hb.g hf _ _ rfl way_2 (enters_of Try.func133 (by kernel_rfl) rfl) (fun u => times_any a b f u ha.1 ha.2 hb.1 hb.2 f1 f2))
  clear hf
  go_enter Try.func95, Try.ntmps95
  go_wp2_with fail; refine (R.out _).mono ?_; rintro e v1 ⟨rfl, x1⟩; obtain ⟨c1, f1⟩ := x1.rules; have z1 := x1.size
  go_wp2
  go_ret2
  exact ⟨rfl, (by repeat (first | with_reducible exact Ext.refl _ | with_reducible apply Ext.drew | with_reducible apply Ext.drewN | with_reducible apply Ext.alloc | ((with_reducible refine Ext.setCell ?_ ?_ _); rotate_left; focus (first | (simp; done) | (simp; omega) | omega)) | with_reducible refine Ext.tr ?_ x1 | with_reducible assumption))⟩
theorem may2_any (v : Int) (w : World) :
    Calls Try.prog 17 #[.int .i64 v] w fun e w' => e = .returned (.bool (gd v)) ∧ w = w' := by
  by_cases h1 : -140737488355328 < v
  · by_cases h2 : v < 140737488355328
    · go_enter Try.func17, Try.ntmps17
      go_wp2
      go_ret
      exact ⟨by rw [gd_t h1 h2]; rfl, rfl⟩
    · go_enter Try.func17, Try.ntmps17
      go_wp2
      go_ret
      exact ⟨by rw [gd_f (by omega)]; rfl, rfl⟩
  · go_enter Try.func17, Try.ntmps17
    go_wp2
    go_ret
    exact ⟨by rw [gd_f (by omega)]; rfl, rfl⟩
theorem gd_wv (x : Int) : gd (wv x) = true := by
  unfold wv; cases h : gd x <;> simp [h] <;> decide
theorem wv_wd (x : Int) : Wd (wv x) := gd_iff.1 (gd_wv x)
theorem wv_of {x : Int} (h : gd x = true) : wv x = x := by simp [wv, h]
theorem we_of {x : Int} (h : gd x = true) : we x = 0 := by simp [we, h]
theorem wv_no {x : Int} (h : gd x = false) : wv x = 0 := by simp [wv, h]
theorem we_no {x : Int} (h : gd x = false) : we x = 3 := by simp [we, h]
theorem gd_neg (x : Int) : gd (-x) = gd x := by
  unfold gd; congr 1; apply propext; omega
theorem wv_neg (x : Int) : wv (-x) = -wv x := by unfold wv; rw [gd_neg]; split <;> simp
theorem we_neg (x : Int) : we (-x) = we x := by unfold we; rw [gd_neg]
end Go.Proofs.Ytjmecongccjcgaa
