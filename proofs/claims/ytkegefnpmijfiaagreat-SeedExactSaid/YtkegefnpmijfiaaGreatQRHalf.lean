/- ref2: Half, RootNear, Sqrt, Rsqrt. -/
import Derived.Test.YtkegefnpmijfiaaGreatQRRt
import Derived.Test.YtkegefnpmijfiaaGreatQRTimes
import Derived.Test.YtkegefnpmijfiaaGreatQRef2
import Derived.Test.YtkegefnpmijfiaaGreatQRoots
namespace Go.Proofs.YtkegefnpmijfiaaGreat
open Go.RowKit
theorem cmp_scale {x y s : Int} (h : 0 < s) : cmpI (x * s) (y * s) = cmpI x y := by
  rcases Int.lt_trichotomy x y with k | k | k
  · rw [cmpI_lt k, cmpI_lt (Int.mul_lt_mul_of_pos_right k h)]
  · subst k; rw [cmpI_eq, cmpI_eq]
  · rw [cmpI_gt k, cmpI_gt (Int.mul_lt_mul_of_pos_right k h)]
theorem half_val {k n d n1 d1 g n2 d2 e : Int} (g0 : 0 < g) (e0 : 0 < e) (h1 : k * 2 + 1 = n1 * g) (h2 : 2 = d1 * g) (h3 : n1 * n1 = n2 * e) (h4 : d1 * d1 = d2 * e) : cmpI (n2 * d) (n * d2) = cmpI ((2 * k + 1) * (2 * k + 1) * d) (4 * n) := by
  have s : 0 < e * (g * g) := Int.mul_pos e0 (Int.mul_pos g0 g0)
  rw [← cmp_scale (x := n2 * d) (y := n * d2) s]
  congr 1
  · have a : (2 * k + 1) * (2 * k + 1) = (n1 * n1) * (g * g) := by rw [show 2 * k + 1 = n1 * g by omega]; grind
    rw [a, h3]; grind
  · have a : (4 : Int) = (d1 * d1) * (g * g) := by
      have : (4 : Int) = 2 * 2 := by decide
      rw [this, h2]; grind
    rw [a, h4]; grind
set_option maxHeartbeats 4000000 in
set_option maxRecDepth 100000 in
theorem Half_ref {u v : Value} {x n d : Int} {w : World} (hu : IntAt w u x 1) (hv : RatAt w v n d 6) :
    Calls Tryz.prog 197 #[u, v] w fun e w' => e = .returned (.int .i64 (cmpI ((2 * x + 1) * (2 * x + 1) * d) (4 * n))) ∧ Ext w w' := by
  have HU := Lib.hid hu
  have HV := Lib.hid hv
  obtain ⟨a1, k1, c1, rfl, -⟩ := hu.form
  obtain ⟨a, k, c, b, l, e, rfl, -, -⟩ := hv.is
  clear hu hv
  go_enter Tryz.func197, Tryz.ntmps197
  go_wp2_with fail; refine (Left_p2r (n := 1) (L' := 2) (HU.out.ext Ext.q) (by omega) (by omega) (by omega) (by decide)).mono ?_; rintro e v1 ⟨q1, rfl, x1, h1⟩; obtain ⟨c1, f1⟩ := x1.rules; have z1 := x1.size; have lq := fun o => c1 (w.heap.size) o (by first | (simp; done) | (simp; omega) | omega); have mq := fun o => f1 (w.heap.size) o (by first | (simp; done) | (simp; omega) | omega); have k1_0_0 := lq 0; have q1_0_0 := mq 0; have k1_0_1 := lq 1; have q1_0_1 := mq 1; clear lq mq; have lq := fun o => c1 (w.heap.size + 1) o (by first | (simp; done) | (simp; omega) | omega); have mq := fun o => f1 (w.heap.size + 1) o (by first | (simp; done) | (simp; omega) | omega); have k1_1_0 := lq 0; have q1_1_0 := mq 0; have k1_1_1 := lq 1; have q1_1_1 := mq 1; have k1_1_2 := lq 2; have q1_1_2 := mq 2; clear lq mq; have z1_0 : w.heap.size < v1.heap.size := (by (try simp at z1); omega); have z1_1 : w.heap.size + 1 < v1.heap.size := (by (try simp at z1); omega); (try simp at z1); clear c1 f1; simp [go_sem, *] at k1_0_0 q1_0_0 k1_0_1 q1_0_1 k1_1_0 q1_1_0 k1_1_1 q1_1_1 k1_1_2 q1_1_2
  rw [show p2 1 = 2 from rfl] at h1
  have H1 := Lib.hid h1.1
  clear h1
  go_wp2_with fail; refine (From_new 1 _ (by omega) (by omega)).mono ?_; rintro e v2 ⟨q2, rfl, x2, h2⟩; obtain ⟨c2, f2⟩ := x2.rules; have z2 := x2.size; have lq := fun o => c2 (w.heap.size) o (by first | (simp; done) | (simp; omega) | omega); have mq := fun o => f2 (w.heap.size) o (by first | (simp; done) | (simp; omega) | omega); have k2_0_0 := lq 0; have q2_0_0 := mq 0; have k2_0_1 := lq 1; have q2_0_1 := mq 1; clear lq mq; have lq := fun o => c2 (w.heap.size + 1) o (by first | (simp; done) | (simp; omega) | omega); have mq := fun o => f2 (w.heap.size + 1) o (by first | (simp; done) | (simp; omega) | omega); have k2_1_0 := lq 0; have q2_1_0 := mq 0; have k2_1_1 := lq 1; have q2_1_1 := mq 1; have k2_1_2 := lq 2; have q2_1_2 := mq 2; clear lq mq; have z2_0 : w.heap.size < v2.heap.size := (by (try simp at z2); omega); have z2_1 : w.heap.size + 1 < v2.heap.size := (by (try simp at z2); omega); (try simp at z2); clear c2 f2; simp [go_sem, *] at k2_0_0 q2_0_0 k2_0_1 q2_0_1 k2_1_0 q2_1_0 k2_1_1 q2_1_1 k2_1_2 q2_1_2; (try clear k1_0_0); (try clear q1_0_0); (try clear k1_0_1); (try clear q1_0_1); (try clear k1_1_0); (try clear q1_1_0); (try clear k1_1_1); (try clear q1_1_1); (try clear k1_1_2); (try clear q1_1_2)
  have H2 := Lib.hid h2.1
  clear h2
  go_wp2_with fail; refine (Plus_ref (H1.out.ext Ext.q) (IntAt.mono H2.out (show 1 ≤ 2 by omega)) (by omega)).mono ?_; rintro e v3 ⟨q3, rfl, x3, h3⟩; obtain ⟨c3, f3⟩ := x3.rules; have z3 := x3.size; have lq := fun o => c3 (w.heap.size) o (by first | (simp; done) | (simp; omega) | omega); have mq := fun o => f3 (w.heap.size) o (by first | (simp; done) | (simp; omega) | omega); have k3_0_0 := lq 0; have q3_0_0 := mq 0; have k3_0_1 := lq 1; have q3_0_1 := mq 1; clear lq mq; have lq := fun o => c3 (w.heap.size + 1) o (by first | (simp; done) | (simp; omega) | omega); have mq := fun o => f3 (w.heap.size + 1) o (by first | (simp; done) | (simp; omega) | omega); have k3_1_0 := lq 0; have q3_1_0 := mq 0; have k3_1_1 := lq 1; have q3_1_1 := mq 1; have k3_1_2 := lq 2; have q3_1_2 := mq 2; clear lq mq; have z3_0 : w.heap.size < v3.heap.size := (by (try simp at z3); omega); have z3_1 : w.heap.size + 1 < v3.heap.size := (by (try simp at z3); omega); (try simp at z3); clear c3 f3; simp [go_sem, *] at k3_0_0 q3_0_0 k3_0_1 q3_0_1 k3_1_0 q3_1_0 k3_1_1 q3_1_1 k3_1_2 q3_1_2; (try clear k2_0_0); (try clear q2_0_0); (try clear k2_0_1); (try clear q2_0_1); (try clear k2_1_0); (try clear q2_1_0); (try clear k2_1_1); (try clear q2_1_1); (try clear k2_1_2); (try clear q2_1_2)
  have H3 := Lib.hid h3.1
  clear h3 H1 H2
  go_wp2_with fail; refine (NOf_any 2 _ (by omega) (by omega)).mono ?_; rintro e v4 ⟨q4, rfl, x4, h4⟩; obtain ⟨c4, f4⟩ := x4.rules; have z4 := x4.size; have lq := fun o => c4 (w.heap.size) o (by first | (simp; done) | (simp; omega) | omega); have mq := fun o => f4 (w.heap.size) o (by first | (simp; done) | (simp; omega) | omega); have k4_0_0 := lq 0; have q4_0_0 := mq 0; have k4_0_1 := lq 1; have q4_0_1 := mq 1; clear lq mq; have lq := fun o => c4 (w.heap.size + 1) o (by first | (simp; done) | (simp; omega) | omega); have mq := fun o => f4 (w.heap.size + 1) o (by first | (simp; done) | (simp; omega) | omega); have k4_1_0 := lq 0; have q4_1_0 := mq 0; have k4_1_1 := lq 1; have q4_1_1 := mq 1; have k4_1_2 := lq 2; have q4_1_2 := mq 2; clear lq mq; have z4_0 : w.heap.size < v4.heap.size := (by (try simp at z4); omega); have z4_1 : w.heap.size + 1 < v4.heap.size := (by (try simp at z4); omega); (try simp at z4); clear c4 f4; simp [go_sem, *] at k4_0_0 q4_0_0 k4_0_1 q4_0_1 k4_1_0 q4_1_0 k4_1_1 q4_1_1 k4_1_2 q4_1_2; (try clear k3_0_0); (try clear q3_0_0); (try clear k3_0_1); (try clear q3_0_1); (try clear k3_1_0); (try clear q3_1_0); (try clear k3_1_1); (try clear q3_1_1); (try clear k3_1_2); (try clear q3_1_2)
  have H4 := Lib.hid (h4.mono (show 1 ≤ 2 + 1 by omega))
  clear h4
  go_wp2_with fail; refine (Make_ref (H3.out.ext Ext.q) H4.out (by omega) (by omega)).mono ?_; rintro e v5 ⟨q5, n5, d5, g, rfl, x5, g0, e1, e2, d0, h5, -⟩; obtain ⟨c5, f5⟩ := x5.rules; have z5 := x5.size; have lq := fun o => c5 (w.heap.size) o (by first | (simp; done) | (simp; omega) | omega); have mq := fun o => f5 (w.heap.size) o (by first | (simp; done) | (simp; omega) | omega); have k5_0_0 := lq 0; have q5_0_0 := mq 0; have k5_0_1 := lq 1; have q5_0_1 := mq 1; clear lq mq; have lq := fun o => c5 (w.heap.size + 1) o (by first | (simp; done) | (simp; omega) | omega); have mq := fun o => f5 (w.heap.size + 1) o (by first | (simp; done) | (simp; omega) | omega); have k5_1_0 := lq 0; have q5_1_0 := mq 0; have k5_1_1 := lq 1; have q5_1_1 := mq 1; have k5_1_2 := lq 2; have q5_1_2 := mq 2; clear lq mq; have z5_0 : w.heap.size < v5.heap.size := (by (try simp at z5); omega); have z5_1 : w.heap.size + 1 < v5.heap.size := (by (try simp at z5); omega); (try simp at z5); clear c5 f5; simp [go_sem, *] at k5_0_0 q5_0_0 k5_0_1 q5_0_1 k5_1_0 q5_1_0 k5_1_1 q5_1_1 k5_1_2 q5_1_2
  obtain ⟨a5, k5, c5, b5, l5, f5, rfl, -, -⟩ := h5.is
  have H5 := Lib.hid h5
  have HE1 := Lib.hid e1
  have HE2 := Lib.hid e2
  clear H3 H4 e1 e2 h5
  go_wp2_with fail
  go_region_held3 (fun w' => w'.cell? ⟨v5.heap.size, 0, none⟩ = some (.bool (decide (n5 < 0))) ∧ w'.cell? ⟨v5.heap.size, 1, none⟩ = some (.slice a5 k5 c5) ∧ w'.cell? ⟨v5.heap.size, 2, none⟩ = some (.slice b5 l5 f5) ∧ w'.cell? ⟨w.heap.size + 1, 0, none⟩ = some (.bool (decide (n < 0))) ∧ w'.cell? ⟨w.heap.size + 1, 1, none⟩ = some (.slice a k c) ∧ w'.cell? ⟨w.heap.size + 1, 2, none⟩ = some (.slice b l e) ∧ v5.heap.size < w'.heap.size ∧ Ext w w')
    (refine ⟨?_, ?_, ?_, ?_, ?_, ?_, ?_, ?_⟩ <;> first | (simp [go_sem, *]; done) | omega | (simp at z1; omega) | (simp at z2; omega) | (simp at z3; omega) | (simp at z4; omega) | exact Ext.q)
    (first
      | (go_at_call 203; refine (RTimes_ref (H5.out.ext Ext.q) (H5.out.ext Ext.q) d0 d0 (by omega)).mono ?_; rintro e v6 ⟨q6, n6, d6, e6, rfl, x6, z6', e3, e4, d7, h6, -⟩; obtain ⟨c6, f6⟩ := x6.rules; have z6 := x6.size; have lq := fun o => c6 (w.heap.size) o (by first | (simp; done) | (simp; omega) | omega); have mq := fun o => f6 (w.heap.size) o (by first | (simp; done) | (simp; omega) | omega); have k6_0_0 := lq 0; have q6_0_0 := mq 0; have k6_0_1 := lq 1; have q6_0_1 := mq 1; clear lq mq; have lq := fun o => c6 (w.heap.size + 1) o (by first | (simp; done) | (simp; omega) | omega); have mq := fun o => f6 (w.heap.size + 1) o (by first | (simp; done) | (simp; omega) | omega); have k6_1_0 := lq 0; have q6_1_0 := mq 0; have k6_1_1 := lq 1; have q6_1_1 := mq 1; have k6_1_2 := lq 2; have q6_1_2 := mq 2; clear lq mq; have lq := fun o => c6 (v5.heap.size) o (by first | (simp; done) | (simp; omega) | omega); have mq := fun o => f6 (v5.heap.size) o (by first | (simp; done) | (simp; omega) | omega); have k6_v5_heap_size_0 := lq 0; have q6_v5_heap_size_0 := mq 0; have k6_v5_heap_size_1 := lq 1; have q6_v5_heap_size_1 := mq 1; have k6_v5_heap_size_2 := lq 2; have q6_v5_heap_size_2 := mq 2; clear lq mq; have z6_0 : w.heap.size < v6.heap.size := (by (try simp at z6); omega); have z6_1 : w.heap.size + 1 < v6.heap.size := (by (try simp at z6); omega); have z6_v5_heap_size : v5.heap.size < v6.heap.size := (by (try simp at z6); omega); (try simp at z6); clear c6 f6; simp [go_sem, *] at k6_0_0 q6_0_0 k6_0_1 q6_0_1 k6_1_0 q6_1_0 k6_1_1 q6_1_1 k6_1_2 q6_1_2 k6_v5_heap_size_0 q6_v5_heap_size_0 k6_v5_heap_size_1 q6_v5_heap_size_1 k6_v5_heap_size_2 q6_v5_heap_size_2; have H6 := Lib.hid h6; have HE3 := Lib.hid e3; have HE4 := Lib.hid e4; clear h6 e3 e4 H5)
      | ((go_at_call 250; refine (RCmp_ref (H6.out.ext Ext.q) (RatAt.mono (HV.out.ext Ext.q) (show 6 ≤ 2 * (2 + 1) by omega)) (by omega)).mono ?_; rintro e v7 ⟨rfl, x7⟩; obtain ⟨c7, f7⟩ := x7.rules; have z7 := x7.size; have lq := fun o => c7 (w.heap.size) o (by first | (simp; done) | (simp; omega) | omega); have mq := fun o => f7 (w.heap.size) o (by first | (simp; done) | (simp; omega) | omega); have k7_0_0 := lq 0; have q7_0_0 := mq 0; have k7_0_1 := lq 1; have q7_0_1 := mq 1; clear lq mq; have lq := fun o => c7 (w.heap.size + 1) o (by first | (simp; done) | (simp; omega) | omega); have mq := fun o => f7 (w.heap.size + 1) o (by first | (simp; done) | (simp; omega) | omega); have k7_1_0 := lq 0; have q7_1_0 := mq 0; have k7_1_1 := lq 1; have q7_1_1 := mq 1; have k7_1_2 := lq 2; have q7_1_2 := mq 2; clear lq mq; have lq := fun o => c7 (v5.heap.size) o (by first | (simp; done) | (simp; omega) | omega); have mq := fun o => f7 (v5.heap.size) o (by first | (simp; done) | (simp; omega) | omega); have k7_v5_heap_size_0 := lq 0; have q7_v5_heap_size_0 := mq 0; have k7_v5_heap_size_1 := lq 1; have q7_v5_heap_size_1 := mq 1; have k7_v5_heap_size_2 := lq 2; have q7_v5_heap_size_2 := mq 2; clear lq mq; have z7_0 : w.heap.size < v7.heap.size := (by (try simp at z7); omega); have z7_1 : w.heap.size + 1 < v7.heap.size := (by (try simp at z7); omega); have z7_v5_heap_size : v5.heap.size < v7.heap.size := (by (try simp at z7); omega); (try simp at z7); clear c7 f7; simp [go_sem, *] at k7_0_0 q7_0_0 k7_0_1 q7_0_1 k7_1_0 q7_1_0 k7_1_1 q7_1_1 k7_1_2 q7_1_2 k7_v5_heap_size_0 q7_v5_heap_size_0 k7_v5_heap_size_1 q7_v5_heap_size_1 k7_v5_heap_size_2 q7_v5_heap_size_2); clear H6))
  all_goals
    rw [half_val g0 z6' HE1.out HE2.out HE3.out HE4.out]
    go_wp2
    go_ret
    exact ⟨rfl, Ext.q⟩
set_option maxHeartbeats 4000000 in
set_option maxRecDepth 100000 in
theorem RootNear_ref {v : Value} {n d : Int} {w : World} (hv : RatAt w v n d 6) (n0 : 0 ≤ n) (hn : n < 2 ^ 120) (d0 : 0 < d) :
    Calls Tryz.prog 129 #[v] w fun e w' => ∃ q r, e = .returned q ∧ Ext w w' ∧ IntAt w' q r 2 ∧ NearRoot n d r := by
  have HV := Lib.hid hv
  have nd0 : 0 ≤ n / d := Int.ediv_nonneg n0 (by omega)
  have NDN := Lib.hid (Int.lt_of_le_of_lt (Int.ediv_le_self d n0) hn)
  have D0 := Lib.hid d0
  obtain ⟨a, k, c, b, l, e, rfl, -, -⟩ := hv.is
  clear hv hn n0 d0
  go_enter Tryz.func129, Tryz.ntmps129
  go_wp2_with fail; refine (RFloor_ref (HV.out.ext Ext.q) D0.out (by omega)).mono ?_; rintro e v1 ⟨q1, rfl, x1, h1⟩; obtain ⟨c1, f1⟩ := x1.rules; have z1 := x1.size; have lq := fun o => c1 (w.heap.size) o (by first | (simp; done) | (simp; omega) | omega); have mq := fun o => f1 (w.heap.size) o (by first | (simp; done) | (simp; omega) | omega); have k1_0_0 := lq 0; have q1_0_0 := mq 0; have k1_0_1 := lq 1; have q1_0_1 := mq 1; have k1_0_2 := lq 2; have q1_0_2 := mq 2; clear lq mq; have lq := fun o => c1 (w.heap.size + 1) o (by first | (simp; done) | (simp; omega) | omega); have mq := fun o => f1 (w.heap.size + 1) o (by first | (simp; done) | (simp; omega) | omega); have k1_1_0 := lq 0; have q1_1_0 := mq 0; have k1_1_1 := lq 1; have q1_1_1 := mq 1; clear lq mq; have z1_0 : w.heap.size < v1.heap.size := (by (try simp at z1); omega); have z1_1 : w.heap.size + 1 < v1.heap.size := (by (try simp at z1); omega); (try simp at z1); clear c1 f1; simp [go_sem, *] at k1_0_0 q1_0_0 k1_0_1 q1_0_1 k1_0_2 q1_0_2 k1_1_0 q1_1_0 k1_1_1 q1_1_1
  have H1 := Lib.hid h1.1
  clear h1
  go_wp2_with fail; refine (Root_ref H1.out nd0 NDN.out (by omega) (by omega)).mono ?_; rintro e v2 ⟨q2, x, rfl, x2, h2, ir, n2⟩; obtain ⟨c2, f2⟩ := x2.rules; have z2 := x2.size; have lq := fun o => c2 (w.heap.size) o (by first | (simp; done) | (simp; omega) | omega); have mq := fun o => f2 (w.heap.size) o (by first | (simp; done) | (simp; omega) | omega); have k2_0_0 := lq 0; have q2_0_0 := mq 0; have k2_0_1 := lq 1; have q2_0_1 := mq 1; have k2_0_2 := lq 2; have q2_0_2 := mq 2; clear lq mq; have lq := fun o => c2 (w.heap.size + 1) o (by first | (simp; done) | (simp; omega) | omega); have mq := fun o => f2 (w.heap.size + 1) o (by first | (simp; done) | (simp; omega) | omega); have k2_1_0 := lq 0; have q2_1_0 := mq 0; have k2_1_1 := lq 1; have q2_1_1 := mq 1; clear lq mq; have z2_0 : w.heap.size < v2.heap.size := (by (try simp at z2); omega); have z2_1 : w.heap.size + 1 < v2.heap.size := (by (try simp at z2); omega); (try simp at z2); clear c2 f2; simp [go_sem, *] at k2_0_0 q2_0_0 k2_0_1 q2_0_1 k2_0_2 q2_0_2 k2_1_0 q2_1_0 k2_1_1 q2_1_1
  obtain ⟨ax, kx, cx, rfl, hx⟩ := h2.form
  have x0 : 0 ≤ x := ir.1
  have IR := Lib.hid ir
  have HXI := Lib.hid hx
  have NX := Lib.hid (n2 _ _ rfl)
  have SX := Lib.hid (show false = decide (x < 0) by symm; simp; omega)
  rw [← SX.out]
  have XI0 := Lib.hid (IntAt.of SX.out HXI.out)
  have OXR := Lib.hid (NX.out.off (g := w.heap.size + 1) (by first | (simp; done) | (simp; omega) | omega))
  clear h2 hx n2 ir H1 NDN nd0 NX
  go_wp2_with fail; refine (Half_ref (XI0.out.ext Ext.q) (HV.out.ext Ext.q)).mono ?_; rintro e v3 ⟨rfl, x3⟩; obtain ⟨c3, f3⟩ := x3.rules; have z3 := x3.size; have lq := fun o => c3 (w.heap.size) o (by first | (simp; done) | (simp; omega) | omega); have mq := fun o => f3 (w.heap.size) o (by first | (simp; done) | (simp; omega) | omega); have k3_0_0 := lq 0; have q3_0_0 := mq 0; have k3_0_1 := lq 1; have q3_0_1 := mq 1; have k3_0_2 := lq 2; have q3_0_2 := mq 2; clear lq mq; have lq := fun o => c3 (w.heap.size + 1) o (by first | (simp; done) | (simp; omega) | omega); have mq := fun o => f3 (w.heap.size + 1) o (by first | (simp; done) | (simp; omega) | omega); have k3_1_0 := lq 0; have q3_1_0 := mq 0; have k3_1_1 := lq 1; have q3_1_1 := mq 1; clear lq mq; have lq := fun o => c3 (v2.heap.size) o (by first | (simp; done) | (simp; omega) | omega); have mq := fun o => f3 (v2.heap.size) o (by first | (simp; done) | (simp; omega) | omega); have k3_v2_heap_size_0 := lq 0; have q3_v2_heap_size_0 := mq 0; have k3_v2_heap_size_1 := lq 1; have q3_v2_heap_size_1 := mq 1; clear lq mq; have z3_0 : w.heap.size < v3.heap.size := (by (try simp at z3); omega); have z3_1 : w.heap.size + 1 < v3.heap.size := (by (try simp at z3); omega); have z3_v2_heap_size : v2.heap.size < v3.heap.size := (by (try simp at z3); omega); (try simp at z3); clear c3 f3; simp [go_sem, *] at k3_0_0 q3_0_0 k3_0_1 q3_0_1 k3_0_2 q3_0_2 k3_1_0 q3_1_0 k3_1_1 q3_1_1 k3_v2_heap_size_0 q3_v2_heap_size_0 k3_v2_heap_size_1 q3_v2_heap_size_1; (try clear k1_0_0); (try clear q1_0_0); (try clear k1_0_1); (try clear q1_0_1); (try clear k1_0_2); (try clear q1_0_2); (try clear k1_1_0); (try clear q1_1_0); (try clear k1_1_1); (try clear q1_1_1)
  have XI := Lib.hid (show IntAt v3 (.agg #[.bool false, .slice ax kx cx]) x 1 from XI0.out.ext Ext.q)
  have HXI' := Lib.hid (show NatAt v3 (.slice ax kx cx) (mag x) 1 from HXI.out.ext Ext.q)
  clear XI0 HXI
  have HXI := HXI'
  clear HXI'
  have UP := Lib.hid (near_up D0.out IR.out)
  have ST := Lib.hid (near_stay D0.out IR.out)
  clear IR D0 HV
  rcases Int.lt_trichotomy ((2 * x + 1) * (2 * x + 1) * d) (4 * n) with h | h | h
  · rw [cmpI_lt h]
    have NR := Lib.hid (UP.out (.inl h))
    clear h UP ST
    go_wp2_with fail
    go_region_held3 (fun w' => w'.cell? ⟨v2.heap.size, 0, none⟩ = some (.bool false) ∧ w'.cell? ⟨v2.heap.size, 1, none⟩ = some (.slice ax kx cx) ∧ v2.heap.size < w'.heap.size ∧ Ext w w')
      (refine ⟨?_, ?_, ?_, ?_⟩ <;> first | (simp [go_sem, *]; done) | omega | (simp at z1; omega) | (simp at z2; omega) | (simp at z3; omega) | (simp at z4; omega) | exact Ext.q)
      (first
        | ((go_at_call 67; refine (From_new 1 _ (by omega) (by omega)).mono ?_; rintro e v8 ⟨q8, rfl, x8, h8⟩; obtain ⟨c8, f8⟩ := x8.rules; have z8 := x8.size; have lq := fun o => c8 (w.heap.size + 1) o (by first | (simp; done) | (simp; omega) | omega); have mq := fun o => f8 (w.heap.size + 1) o (by first | (simp; done) | (simp; omega) | omega); have k8_1_0 := lq 0; have q8_1_0 := mq 0; have k8_1_1 := lq 1; have q8_1_1 := mq 1; clear lq mq; have lq := fun o => c8 (v2.heap.size) o (by first | (simp; done) | (simp; omega) | omega); have mq := fun o => f8 (v2.heap.size) o (by first | (simp; done) | (simp; omega) | omega); have k8_v2_heap_size_0 := lq 0; have q8_v2_heap_size_0 := mq 0; have k8_v2_heap_size_1 := lq 1; have q8_v2_heap_size_1 := mq 1; clear lq mq; have z8_0 : w.heap.size < v8.heap.size := (by (try simp at z8); omega); have z8_1 : w.heap.size + 1 < v8.heap.size := (by (try simp at z8); omega); have z8_v2_heap_size : v2.heap.size < v8.heap.size := (by (try simp at z8); omega); (try simp at z8); clear c8 f8; simp [go_sem, *] at k8_1_0 q8_1_0 k8_1_1 q8_1_1 k8_v2_heap_size_0 q8_v2_heap_size_0 k8_v2_heap_size_1 q8_v2_heap_size_1); have H8 := Lib.hid h8.1; clear h8)
        | ((go_at_call 68; refine (Plus_ref (XI.out.ext Ext.q) (H8.out.ext Ext.q) (by omega)).mono ?_; rintro e v9 ⟨q9, rfl, x9, h9⟩; obtain ⟨c9, f9⟩ := x9.rules; have z9 := x9.size; have lq := fun o => c9 (w.heap.size + 1) o (by first | (simp; done) | (simp; omega) | omega); have mq := fun o => f9 (w.heap.size + 1) o (by first | (simp; done) | (simp; omega) | omega); have k9_1_0 := lq 0; have q9_1_0 := mq 0; have k9_1_1 := lq 1; have q9_1_1 := mq 1; clear lq mq; have lq := fun o => c9 (v2.heap.size) o (by first | (simp; done) | (simp; omega) | omega); have mq := fun o => f9 (v2.heap.size) o (by first | (simp; done) | (simp; omega) | omega); have k9_v2_heap_size_0 := lq 0; have q9_v2_heap_size_0 := mq 0; have k9_v2_heap_size_1 := lq 1; have q9_v2_heap_size_1 := mq 1; clear lq mq; have z9_0 : w.heap.size < v9.heap.size := (by (try simp at z9); omega); have z9_1 : w.heap.size + 1 < v9.heap.size := (by (try simp at z9); omega); have z9_v2_heap_size : v2.heap.size < v9.heap.size := (by (try simp at z9); omega); (try simp at z9); clear c9 f9; simp [go_sem, *] at k9_1_0 q9_1_0 k9_1_1 q9_1_1 k9_v2_heap_size_0 q9_v2_heap_size_0 k9_v2_heap_size_1 q9_v2_heap_size_1); obtain ⟨h9, n9⟩ := h9; obtain ⟨a9, k9, c9, rfl, hf9⟩ := h9.form; have H9 := Lib.hid hf9; have N9 := Lib.hid (n9 _ _ rfl); clear h9 n9 hf9 H8))
    all_goals
      have O9 := Lib.hid (N9.out.off (g := w.heap.size + 1) (by first | (simp; done) | (simp; omega) | omega))
      go_wp2
      simp [bodyPost, results, Tryz.results129, go_sem, *]
      first
        | exact ⟨x + 1, IntAt.of rfl (by repeat (first | with_reducible exact H9.out | with_reducible refine NatAt.alloc' ?_ | with_reducible refine NatAt.drew' ?_ | with_reducible refine NatAt.drewN' ?_ | with_reducible refine NatAt.off ?_ O9.out | with_reducible refine NatAt.ext ?_ x1 | with_reducible refine NatAt.ext ?_ x2 | with_reducible refine NatAt.ext ?_ x3 | with_reducible refine NatAt.ext ?_ x4 | with_reducible refine NatAt.ext ?_ x5 | with_reducible refine NatAt.ext ?_ x6 | with_reducible refine NatAt.ext ?_ x7 | with_reducible refine NatAt.ext ?_ x8 | with_reducible refine NatAt.ext ?_ x9 | with_reducible refine NatAt.ext ?_ hx | with_reducible refine NatAt.ext ?_ hext)), NR.out⟩
        | exact ⟨Ext.q, x + 1, IntAt.of rfl (by repeat (first | with_reducible exact H9.out | with_reducible refine NatAt.alloc' ?_ | with_reducible refine NatAt.drew' ?_ | with_reducible refine NatAt.drewN' ?_ | with_reducible refine NatAt.off ?_ O9.out | with_reducible refine NatAt.ext ?_ x1 | with_reducible refine NatAt.ext ?_ x2 | with_reducible refine NatAt.ext ?_ x3 | with_reducible refine NatAt.ext ?_ x4 | with_reducible refine NatAt.ext ?_ x5 | with_reducible refine NatAt.ext ?_ x6 | with_reducible refine NatAt.ext ?_ x7 | with_reducible refine NatAt.ext ?_ x8 | with_reducible refine NatAt.ext ?_ x9 | with_reducible refine NatAt.ext ?_ hx | with_reducible refine NatAt.ext ?_ hext)), NR.out⟩
  · rw [show cmpI ((2 * x + 1) * (2 * x + 1) * d) (4 * n) = 0 by rw [h, cmpI_eq]]
    by_cases ev : x % 2 = 0
    · have NR := Lib.hid (ST.out (.inr ⟨h, ev⟩))
      have cz : (cmpI (x / 2 * 2) x != 0) = false := cmp_z (by omega)
      clear h UP ST ev
      go_wp2_with fail
      go_cut [22] (fun s22 wx => s22 = .bool false ∧ wx.cell? ⟨w.heap.size + 1, 0, none⟩ = some (.bool false) ∧ wx.cell? ⟨w.heap.size + 1, 1, none⟩ = some (.slice none 0 0) ∧ wx.cell? ⟨v2.heap.size, 0, none⟩ = some (.bool false) ∧ wx.cell? ⟨v2.heap.size, 1, none⟩ = some (.slice ax kx cx) ∧ wx.frozen? ⟨w.heap.size + 1, 0, none⟩ = false ∧ wx.frozen? ⟨w.heap.size + 1, 1, none⟩ = false ∧ v2.heap.size < wx.heap.size ∧ Ext w wx ∧ Ext v3 wx)
      case first => as_aux_lemma =>
        go_region_held3 (fun w' => w'.cell? ⟨v2.heap.size, 0, none⟩ = some (.bool false) ∧ w'.cell? ⟨v2.heap.size, 1, none⟩ = some (.slice ax kx cx) ∧ v2.heap.size < w'.heap.size ∧ Ext w w' ∧ Ext v3 w')
          (refine ⟨?_, ?_, ?_, ?_, ?_⟩ <;> first | (simp [go_sem, *]; done) | omega | (simp at z1; omega) | (simp at z2; omega) | (simp at z3; omega) | (simp at z4; omega) | exact Ext.q)
          (first
            | ((go_at_call 109; refine (Right_ref (n := 1) (XI.out.ext Ext.q) (by omega) (by omega) (by omega)).mono ?_; rintro e v4 ⟨q4, rfl, x4, h4⟩; obtain ⟨c4, f4⟩ := x4.rules; have z4 := x4.size; have lq := fun o => c4 (w.heap.size + 1) o (by first | (simp; done) | (simp; omega) | omega); have mq := fun o => f4 (w.heap.size + 1) o (by first | (simp; done) | (simp; omega) | omega); have k4_1_0 := lq 0; have q4_1_0 := mq 0; have k4_1_1 := lq 1; have q4_1_1 := mq 1; clear lq mq; have lq := fun o => c4 (v2.heap.size) o (by first | (simp; done) | (simp; omega) | omega); have mq := fun o => f4 (v2.heap.size) o (by first | (simp; done) | (simp; omega) | omega); have k4_v2_heap_size_0 := lq 0; have q4_v2_heap_size_0 := mq 0; have k4_v2_heap_size_1 := lq 1; have q4_v2_heap_size_1 := mq 1; clear lq mq; have z4_0 : w.heap.size < v4.heap.size := (by (try simp at z4); omega); have z4_1 : w.heap.size + 1 < v4.heap.size := (by (try simp at z4); omega); have z4_v2_heap_size : v2.heap.size < v4.heap.size := (by (try simp at z4); omega); (try simp at z4); clear c4 f4; simp [go_sem, *] at k4_1_0 q4_1_0 k4_1_1 q4_1_1 k4_v2_heap_size_0 q4_v2_heap_size_0 k4_v2_heap_size_1 q4_v2_heap_size_1); rw [show p2 1 = 2 from rfl] at h4; have H4 := Lib.hid h4.1; clear h4)
            | ((go_at_call 74; refine (Left_p2r (n := 1) (L' := 4) (H4.out.ext Ext.q) (by omega) (by omega) (by omega) (by decide)).mono ?_; rintro e v5 ⟨q5, rfl, x5, h5⟩; obtain ⟨c5, f5⟩ := x5.rules; have z5 := x5.size; have lq := fun o => c5 (w.heap.size + 1) o (by first | (simp; done) | (simp; omega) | omega); have mq := fun o => f5 (w.heap.size + 1) o (by first | (simp; done) | (simp; omega) | omega); have k5_1_0 := lq 0; have q5_1_0 := mq 0; have k5_1_1 := lq 1; have q5_1_1 := mq 1; clear lq mq; have lq := fun o => c5 (v2.heap.size) o (by first | (simp; done) | (simp; omega) | omega); have mq := fun o => f5 (v2.heap.size) o (by first | (simp; done) | (simp; omega) | omega); have k5_v2_heap_size_0 := lq 0; have q5_v2_heap_size_0 := mq 0; have k5_v2_heap_size_1 := lq 1; have q5_v2_heap_size_1 := mq 1; clear lq mq; have z5_0 : w.heap.size < v5.heap.size := (by (try simp at z5); omega); have z5_1 : w.heap.size + 1 < v5.heap.size := (by (try simp at z5); omega); have z5_v2_heap_size : v2.heap.size < v5.heap.size := (by (try simp at z5); omega); (try simp at z5); clear c5 f5; simp [go_sem, *] at k5_1_0 q5_1_0 k5_1_1 q5_1_1 k5_v2_heap_size_0 q5_v2_heap_size_0 k5_v2_heap_size_1 q5_v2_heap_size_1); rw [show p2 1 = 2 from rfl] at h5; have H5 := Lib.hid h5.1; clear h5 H4)
            | ((go_at_call 71; refine (Cmp_ref (H5.out.ext Ext.q) (IntAt.mono (XI.out.ext Ext.q) (show 1 ≤ 4 by omega)) (by omega)).mono ?_; rintro e v6 ⟨rfl, x6⟩; obtain ⟨c6, f6⟩ := x6.rules; have z6 := x6.size; have lq := fun o => c6 (w.heap.size + 1) o (by first | (simp; done) | (simp; omega) | omega); have mq := fun o => f6 (w.heap.size + 1) o (by first | (simp; done) | (simp; omega) | omega); have k6_1_0 := lq 0; have q6_1_0 := mq 0; have k6_1_1 := lq 1; have q6_1_1 := mq 1; clear lq mq; have lq := fun o => c6 (v2.heap.size) o (by first | (simp; done) | (simp; omega) | omega); have mq := fun o => f6 (v2.heap.size) o (by first | (simp; done) | (simp; omega) | omega); have k6_v2_heap_size_0 := lq 0; have q6_v2_heap_size_0 := mq 0; have k6_v2_heap_size_1 := lq 1; have q6_v2_heap_size_1 := mq 1; clear lq mq; have z6_0 : w.heap.size < v6.heap.size := (by (try simp at z6); omega); have z6_1 : w.heap.size + 1 < v6.heap.size := (by (try simp at z6); omega); have z6_v2_heap_size : v2.heap.size < v6.heap.size := (by (try simp at z6); omega); (try simp at z6); clear c6 f6; simp [go_sem, *] at k6_1_0 q6_1_0 k6_1_1 q6_1_1 k6_v2_heap_size_0 q6_v2_heap_size_0 k6_v2_heap_size_1 q6_v2_heap_size_1); clear H5))
        all_goals
          go_wp2_with fail
          go_meet
          exact ⟨rfl, by simp [go_sem, *], by simp [go_sem, *], by simp [go_sem, *], by simp [go_sem, *], by simp [go_sem, *], by simp [go_sem, *], (by first | (simp; done) | (simp; omega) | omega), Ext.q, Ext.q⟩
      case rest => as_aux_lemma =>
        obtain ⟨rfl, t0, t1, t2, t3, t4, t5, vz, hext, hx⟩ := hcut
        clear cz
        have XI' := Lib.hid (XI.out.ext hx)
        have HXI' := Lib.hid (HXI.out.ext hx)
        clear XI HXI hx
        have XI := XI'
        have HXI := HXI'
        clear XI' HXI'
        have tw1 : w.heap.size + 1 < wc.heap.size := by omega
        go_wp2
        simp [bodyPost, results, Tryz.results129, go_sem, *]
        exact ⟨Ext.q, x, IntAt.of SX.out (NatAt.mono (L := 1) (by repeat (first | with_reducible exact HXI.out | with_reducible refine NatAt.alloc' ?_ | with_reducible refine NatAt.drew' ?_ | with_reducible refine NatAt.drewN' ?_ | with_reducible refine NatAt.off ?_ OXR.out | with_reducible refine NatAt.ext ?_ x1 | with_reducible refine NatAt.ext ?_ x2 | with_reducible refine NatAt.ext ?_ x3 | with_reducible refine NatAt.ext ?_ x4 | with_reducible refine NatAt.ext ?_ x5 | with_reducible refine NatAt.ext ?_ x6 | with_reducible refine NatAt.ext ?_ x7 | with_reducible refine NatAt.ext ?_ x8 | with_reducible refine NatAt.ext ?_ x9 | with_reducible refine NatAt.ext ?_ hx | with_reducible refine NatAt.ext ?_ hext)) (by omega)), NR.out⟩
    · have NR := Lib.hid (UP.out (.inr ⟨h, ev⟩))
      have cz : (cmpI (x / 2 * 2) x != 0) = true := cmp_nz (by omega)
      clear h UP ST ev
      go_wp2_with fail
      go_cut [22] (fun s22 wx => s22 = .bool true ∧ wx.cell? ⟨w.heap.size + 1, 0, none⟩ = some (.bool false) ∧ wx.cell? ⟨w.heap.size + 1, 1, none⟩ = some (.slice none 0 0) ∧ wx.cell? ⟨v2.heap.size, 0, none⟩ = some (.bool false) ∧ wx.cell? ⟨v2.heap.size, 1, none⟩ = some (.slice ax kx cx) ∧ wx.frozen? ⟨w.heap.size + 1, 0, none⟩ = false ∧ wx.frozen? ⟨w.heap.size + 1, 1, none⟩ = false ∧ v2.heap.size < wx.heap.size ∧ Ext w wx ∧ Ext v3 wx)
      case first => as_aux_lemma =>
        go_region_held3 (fun w' => w'.cell? ⟨v2.heap.size, 0, none⟩ = some (.bool false) ∧ w'.cell? ⟨v2.heap.size, 1, none⟩ = some (.slice ax kx cx) ∧ v2.heap.size < w'.heap.size ∧ Ext w w' ∧ Ext v3 w')
          (refine ⟨?_, ?_, ?_, ?_, ?_⟩ <;> first | (simp [go_sem, *]; done) | omega | (simp at z1; omega) | (simp at z2; omega) | (simp at z3; omega) | (simp at z4; omega) | exact Ext.q)
          (first
            | ((go_at_call 109; refine (Right_ref (n := 1) (XI.out.ext Ext.q) (by omega) (by omega) (by omega)).mono ?_; rintro e v4 ⟨q4, rfl, x4, h4⟩; obtain ⟨c4, f4⟩ := x4.rules; have z4 := x4.size; have lq := fun o => c4 (w.heap.size + 1) o (by first | (simp; done) | (simp; omega) | omega); have mq := fun o => f4 (w.heap.size + 1) o (by first | (simp; done) | (simp; omega) | omega); have k4_1_0 := lq 0; have q4_1_0 := mq 0; have k4_1_1 := lq 1; have q4_1_1 := mq 1; clear lq mq; have lq := fun o => c4 (v2.heap.size) o (by first | (simp; done) | (simp; omega) | omega); have mq := fun o => f4 (v2.heap.size) o (by first | (simp; done) | (simp; omega) | omega); have k4_v2_heap_size_0 := lq 0; have q4_v2_heap_size_0 := mq 0; have k4_v2_heap_size_1 := lq 1; have q4_v2_heap_size_1 := mq 1; clear lq mq; have z4_0 : w.heap.size < v4.heap.size := (by (try simp at z4); omega); have z4_1 : w.heap.size + 1 < v4.heap.size := (by (try simp at z4); omega); have z4_v2_heap_size : v2.heap.size < v4.heap.size := (by (try simp at z4); omega); (try simp at z4); clear c4 f4; simp [go_sem, *] at k4_1_0 q4_1_0 k4_1_1 q4_1_1 k4_v2_heap_size_0 q4_v2_heap_size_0 k4_v2_heap_size_1 q4_v2_heap_size_1); rw [show p2 1 = 2 from rfl] at h4; have H4 := Lib.hid h4.1; clear h4)
            | ((go_at_call 74; refine (Left_p2r (n := 1) (L' := 4) (H4.out.ext Ext.q) (by omega) (by omega) (by omega) (by decide)).mono ?_; rintro e v5 ⟨q5, rfl, x5, h5⟩; obtain ⟨c5, f5⟩ := x5.rules; have z5 := x5.size; have lq := fun o => c5 (w.heap.size + 1) o (by first | (simp; done) | (simp; omega) | omega); have mq := fun o => f5 (w.heap.size + 1) o (by first | (simp; done) | (simp; omega) | omega); have k5_1_0 := lq 0; have q5_1_0 := mq 0; have k5_1_1 := lq 1; have q5_1_1 := mq 1; clear lq mq; have lq := fun o => c5 (v2.heap.size) o (by first | (simp; done) | (simp; omega) | omega); have mq := fun o => f5 (v2.heap.size) o (by first | (simp; done) | (simp; omega) | omega); have k5_v2_heap_size_0 := lq 0; have q5_v2_heap_size_0 := mq 0; have k5_v2_heap_size_1 := lq 1; have q5_v2_heap_size_1 := mq 1; clear lq mq; have z5_0 : w.heap.size < v5.heap.size := (by (try simp at z5); omega); have z5_1 : w.heap.size + 1 < v5.heap.size := (by (try simp at z5); omega); have z5_v2_heap_size : v2.heap.size < v5.heap.size := (by (try simp at z5); omega); (try simp at z5); clear c5 f5; simp [go_sem, *] at k5_1_0 q5_1_0 k5_1_1 q5_1_1 k5_v2_heap_size_0 q5_v2_heap_size_0 k5_v2_heap_size_1 q5_v2_heap_size_1); rw [show p2 1 = 2 from rfl] at h5; have H5 := Lib.hid h5.1; clear h5 H4)
            | ((go_at_call 71; refine (Cmp_ref (H5.out.ext Ext.q) (IntAt.mono (XI.out.ext Ext.q) (show 1 ≤ 4 by omega)) (by omega)).mono ?_; rintro e v6 ⟨rfl, x6⟩; obtain ⟨c6, f6⟩ := x6.rules; have z6 := x6.size; have lq := fun o => c6 (w.heap.size + 1) o (by first | (simp; done) | (simp; omega) | omega); have mq := fun o => f6 (w.heap.size + 1) o (by first | (simp; done) | (simp; omega) | omega); have k6_1_0 := lq 0; have q6_1_0 := mq 0; have k6_1_1 := lq 1; have q6_1_1 := mq 1; clear lq mq; have lq := fun o => c6 (v2.heap.size) o (by first | (simp; done) | (simp; omega) | omega); have mq := fun o => f6 (v2.heap.size) o (by first | (simp; done) | (simp; omega) | omega); have k6_v2_heap_size_0 := lq 0; have q6_v2_heap_size_0 := mq 0; have k6_v2_heap_size_1 := lq 1; have q6_v2_heap_size_1 := mq 1; clear lq mq; have z6_0 : w.heap.size < v6.heap.size := (by (try simp at z6); omega); have z6_1 : w.heap.size + 1 < v6.heap.size := (by (try simp at z6); omega); have z6_v2_heap_size : v2.heap.size < v6.heap.size := (by (try simp at z6); omega); (try simp at z6); clear c6 f6; simp [go_sem, *] at k6_1_0 q6_1_0 k6_1_1 q6_1_1 k6_v2_heap_size_0 q6_v2_heap_size_0 k6_v2_heap_size_1 q6_v2_heap_size_1); clear H5))
        all_goals
          go_wp2_with fail
          go_meet
          exact ⟨rfl, by simp [go_sem, *], by simp [go_sem, *], by simp [go_sem, *], by simp [go_sem, *], by simp [go_sem, *], by simp [go_sem, *], (by first | (simp; done) | (simp; omega) | omega), Ext.q, Ext.q⟩
      case rest => as_aux_lemma =>
        obtain ⟨rfl, t0, t1, t2, t3, t4, t5, vz, hext, hx⟩ := hcut
        clear cz
        have XI' := Lib.hid (XI.out.ext hx)
        have HXI' := Lib.hid (HXI.out.ext hx)
        clear XI HXI hx
        have XI := XI'
        have HXI := HXI'
        clear XI' HXI'
        have tw1 : w.heap.size + 1 < wc.heap.size := by omega
        go_wp2_with fail
        go_region_held3 (fun w' => w'.cell? ⟨v2.heap.size, 0, none⟩ = some (.bool false) ∧ w'.cell? ⟨v2.heap.size, 1, none⟩ = some (.slice ax kx cx) ∧ v2.heap.size < w'.heap.size ∧ Ext w w')
          (refine ⟨?_, ?_, ?_, ?_⟩ <;> first | (simp [go_sem, *]; done) | omega | (simp at z1; omega) | (simp at z2; omega) | (simp at z3; omega) | (simp at z4; omega) | exact Ext.q)
          (first
            | ((go_at_call 67; refine (From_new 1 _ (by omega) (by omega)).mono ?_; rintro e v8 ⟨q8, rfl, x8, h8⟩; obtain ⟨c8, f8⟩ := x8.rules; have z8 := x8.size; have lq := fun o => c8 (w.heap.size + 1) o (by first | (simp; done) | (simp; omega) | omega); have mq := fun o => f8 (w.heap.size + 1) o (by first | (simp; done) | (simp; omega) | omega); have k8_1_0 := lq 0; have q8_1_0 := mq 0; have k8_1_1 := lq 1; have q8_1_1 := mq 1; clear lq mq; have lq := fun o => c8 (v2.heap.size) o (by first | (simp; done) | (simp; omega) | omega); have mq := fun o => f8 (v2.heap.size) o (by first | (simp; done) | (simp; omega) | omega); have k8_v2_heap_size_0 := lq 0; have q8_v2_heap_size_0 := mq 0; have k8_v2_heap_size_1 := lq 1; have q8_v2_heap_size_1 := mq 1; clear lq mq; have z8_0 : w.heap.size < v8.heap.size := (by (try simp at z8); omega); have z8_1 : w.heap.size + 1 < v8.heap.size := (by (try simp at z8); omega); have z8_v2_heap_size : v2.heap.size < v8.heap.size := (by (try simp at z8); omega); (try simp at z8); clear c8 f8; simp [go_sem, *] at k8_1_0 q8_1_0 k8_1_1 q8_1_1 k8_v2_heap_size_0 q8_v2_heap_size_0 k8_v2_heap_size_1 q8_v2_heap_size_1); have H8 := Lib.hid h8.1; clear h8)
            | ((go_at_call 68; refine (Plus_ref (XI.out.ext Ext.q) (H8.out.ext Ext.q) (by omega)).mono ?_; rintro e v9 ⟨q9, rfl, x9, h9⟩; obtain ⟨c9, f9⟩ := x9.rules; have z9 := x9.size; have lq := fun o => c9 (w.heap.size + 1) o (by first | (simp; done) | (simp; omega) | omega); have mq := fun o => f9 (w.heap.size + 1) o (by first | (simp; done) | (simp; omega) | omega); have k9_1_0 := lq 0; have q9_1_0 := mq 0; have k9_1_1 := lq 1; have q9_1_1 := mq 1; clear lq mq; have lq := fun o => c9 (v2.heap.size) o (by first | (simp; done) | (simp; omega) | omega); have mq := fun o => f9 (v2.heap.size) o (by first | (simp; done) | (simp; omega) | omega); have k9_v2_heap_size_0 := lq 0; have q9_v2_heap_size_0 := mq 0; have k9_v2_heap_size_1 := lq 1; have q9_v2_heap_size_1 := mq 1; clear lq mq; have z9_0 : w.heap.size < v9.heap.size := (by (try simp at z9); omega); have z9_1 : w.heap.size + 1 < v9.heap.size := (by (try simp at z9); omega); have z9_v2_heap_size : v2.heap.size < v9.heap.size := (by (try simp at z9); omega); (try simp at z9); clear c9 f9; simp [go_sem, *] at k9_1_0 q9_1_0 k9_1_1 q9_1_1 k9_v2_heap_size_0 q9_v2_heap_size_0 k9_v2_heap_size_1 q9_v2_heap_size_1); obtain ⟨h9, n9⟩ := h9; obtain ⟨a9, k9, c9, rfl, hf9⟩ := h9.form; have H9 := Lib.hid hf9; have N9 := Lib.hid (n9 _ _ rfl); clear h9 n9 hf9 H8))
        all_goals
          have O9 := Lib.hid (N9.out.off (g := w.heap.size + 1) (by first | (simp; done) | (simp; omega) | omega))
          go_wp2
          simp [bodyPost, results, Tryz.results129, go_sem, *]
          first
            | exact ⟨x + 1, IntAt.of rfl (by repeat (first | with_reducible exact H9.out | with_reducible refine NatAt.alloc' ?_ | with_reducible refine NatAt.drew' ?_ | with_reducible refine NatAt.drewN' ?_ | with_reducible refine NatAt.off ?_ O9.out | with_reducible refine NatAt.ext ?_ x1 | with_reducible refine NatAt.ext ?_ x2 | with_reducible refine NatAt.ext ?_ x3 | with_reducible refine NatAt.ext ?_ x4 | with_reducible refine NatAt.ext ?_ x5 | with_reducible refine NatAt.ext ?_ x6 | with_reducible refine NatAt.ext ?_ x7 | with_reducible refine NatAt.ext ?_ x8 | with_reducible refine NatAt.ext ?_ x9 | with_reducible refine NatAt.ext ?_ hx | with_reducible refine NatAt.ext ?_ hext)), NR.out⟩
            | exact ⟨Ext.q, x + 1, IntAt.of rfl (by repeat (first | with_reducible exact H9.out | with_reducible refine NatAt.alloc' ?_ | with_reducible refine NatAt.drew' ?_ | with_reducible refine NatAt.drewN' ?_ | with_reducible refine NatAt.off ?_ O9.out | with_reducible refine NatAt.ext ?_ x1 | with_reducible refine NatAt.ext ?_ x2 | with_reducible refine NatAt.ext ?_ x3 | with_reducible refine NatAt.ext ?_ x4 | with_reducible refine NatAt.ext ?_ x5 | with_reducible refine NatAt.ext ?_ x6 | with_reducible refine NatAt.ext ?_ x7 | with_reducible refine NatAt.ext ?_ x8 | with_reducible refine NatAt.ext ?_ x9 | with_reducible refine NatAt.ext ?_ hx | with_reducible refine NatAt.ext ?_ hext)), NR.out⟩
  · rw [cmpI_gt h]
    have NR := Lib.hid (ST.out (.inl h))
    clear h UP ST
    go_wp2
    simp [bodyPost, results, Tryz.results129, go_sem, *]
    exact ⟨Ext.q, x, IntAt.of SX.out (NatAt.mono (L := 1) (by repeat (first | with_reducible exact HXI.out | with_reducible refine NatAt.alloc' ?_ | with_reducible refine NatAt.drew' ?_ | with_reducible refine NatAt.drewN' ?_ | with_reducible refine NatAt.off ?_ OXR.out | with_reducible refine NatAt.ext ?_ x1 | with_reducible refine NatAt.ext ?_ x2 | with_reducible refine NatAt.ext ?_ x3 | with_reducible refine NatAt.ext ?_ x4 | with_reducible refine NatAt.ext ?_ x5 | with_reducible refine NatAt.ext ?_ x6 | with_reducible refine NatAt.ext ?_ x7 | with_reducible refine NatAt.ext ?_ x8 | with_reducible refine NatAt.ext ?_ x9 | with_reducible refine NatAt.ext ?_ hx | with_reducible refine NatAt.ext ?_ hext)) (by omega)), NR.out⟩
set_option maxRecDepth 100000 in
theorem RSqrt_ref {a f : Int} (w : World) (ha : gd a = true) (hf : gdF f = true) (a0 : 0 ≤ a) :
    Calls Tryz.prog 44 #[.int .i64 a, .int .i64 f] w fun e w' => ∃ r, e = .returned (.tuple #[.int .i64 (wv r), .int .i64 (we r)]) ∧ Ext w w' ∧ NearRoot (a * p2 f) 1 r := by
  have N := Lib.hid (sqrt_n ha hf a0)
  obtain ⟨f1, f2⟩ := gdF_iff.1 hf
  obtain ⟨a2, a1⟩ := gd_iff.1 ha
  have FR := Lib.hid (fun v => From_new a v (by omega) (by omega))
  have L2 := Lib.hid (fun (v : World) (q : Value) (h : IntAt v q a 1) => Left_p2r (n := f) (L' := 2) h (by omega) (by omega) (by omega) (by omega))
  clear a1 a2
  go_enter Tryz.func44, Tryz.ntmps44
  go_wp2_with fail; refine (FR.out _).mono ?_; rintro e v1 ⟨q1, rfl, x1, h1⟩; obtain ⟨c1, f1⟩ := x1.rules; have z1 := x1.size
  have H1 := Lib.hid h1.1
  clear h1
  go_wp2_with fail; refine (L2.out _ _ H1.out).mono ?_; rintro e v2 ⟨q2, rfl, x2, h2⟩; obtain ⟨c2, f2⟩ := x2.rules; have z2 := x2.size
  obtain ⟨h2, -⟩ := h2
  obtain ⟨a2, k2, c2, rfl, hf2⟩ := h2.form
  have H2 := Lib.hid hf2
  clear h2 hf2 L2 FR H1
  go_wp2_with fail; refine (RFrom_raw _ _ _ _ _).mono ?_; rintro e v3 ⟨b3, l3, d3, rfl, x3, h3, -⟩; obtain ⟨c3, f3⟩ := x3.rules; have z3 := x3.size
  have HR : Hid (RatAt v3 (.agg #[.bool (decide (a * p2 f < 0)), .slice a2 k2 c2, .slice b3 l3 d3]) (a * p2 f) 1 6) := Lib.hid ⟨⟨a2, k2, c2, b3, l3, d3, rfl, (H2.out.ext x3).mono (by omega), h3.mono (by omega)⟩⟩
  clear h3 H2
  go_wp2_with fail; refine (RootNear_ref HR.out N.out.1 (Int.lt_trans N.out.2 (by decide)) (by omega)).mono ?_; rintro e v4 ⟨q4, r, rfl, x4, h4, nr⟩; obtain ⟨c4, f4⟩ := x4.rules; have z4 := x4.size
  have H4 := Lib.hid h4
  have NR := Lib.hid nr
  clear h4 nr HR N
  go_wp2_with fail; refine (Word_ref H4.out).mono ?_; rintro e v5 ⟨rfl, x5⟩; obtain ⟨c5, f5⟩ := x5.rules; have z5 := x5.size
  go_wp2
  go_ret2
  exact ⟨r, rfl, Ext.q, NR.out⟩
end Go.Proofs.YtkegefnpmijfiaaGreat
