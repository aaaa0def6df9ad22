/- ref90: Int, Zero, Divide. ref90: Small. ref90: Right. -/
import Derived.Test.YtkegefnpmijfiaaGreatQRats
import Derived.Test.YtkegefnpmijfiaaGreatQInts
import Derived.Test.YtkegefnpmijfiaaGreatQNearsP
import Derived.BigQuiet
namespace Go.Proofs.YtkegefnpmijfiaaGreat
open Go.RowKit
theorem Zero_ref {v : Value} {x : Int} {L : Nat} {w : World} (h : IntAt w v x L) :
    Calls Tryz.prog 111 #[v] w fun e w' => e = .returned (.bool (decide (x = 0))) ∧ Ext w w' := by
  obtain ⟨m, rfl, hm⟩ := h.is
  obtain ⟨a, k, cap, rfl, -, z1, z2⟩ := hm.form
  clear h hm
  rcases Nat.eq_zero_or_pos k with hk | hk
  · have e : decide (x = 0) = true := by have := z1 hk; unfold mag at this; simp; split at this <;> omega
    rw [e]
    subst hk
    clear z1 z2 e
    go_enter Tryz.func111, Tryz.ntmps111
    go_wp2
    go_ret
    exact ⟨rfl, Ext.q⟩
  · have e : decide (x = 0) = false := by have := z2 hk; unfold mag at this; simp; split at this <;> omega
    rw [e]
    have kk : ¬ (k : Int) = 0 := by omega
    have kn : ¬ k = 0 := by omega
    clear z1 z2 e
    go_enter Tryz.func111, Tryz.ntmps111
    go_wp2
    simp [bodyPost, results, Tryz.results111, go_sem, *]
    exact Ext.q
theorem mag_of {n : Int} (h : 0 ≤ n) : mag n = n := by rw [mag, if_neg (by omega)]
theorem mag_ng {n : Int} (h : 0 ≤ n) : mag (-n) = n := by unfold mag; split <;> omega
theorem div_pos' {x y : Int} (h : ¬ x < 0) : x / y = mag x / y ∧ x - x / y * y = x % y := by
  have e : mag x = x := by rw [mag, if_neg h]
  have := Int.ediv_mul_add_emod x y
  exact ⟨by rw [e], by omega⟩
theorem div_neg0 {x y : Int} (hy : 0 < y) (h : x < 0) (hr : mag x % y = 0) : x / y = -(mag x / y) ∧ x - -(mag x / y) * y = x % y := by
  have e : mag x = -x := by rw [mag, if_pos h]
  have d := Int.ediv_mul_add_emod (mag x) y
  have u := (Int.ediv_emod_unique (a := x) (b := y) (r := 0) (q := -(mag x / y)) hy).2 ⟨by rw [Int.mul_neg, Int.mul_comm y]; omega, by omega, hy⟩
  refine ⟨u.1, ?_⟩
  rw [u.2, Int.neg_mul]; omega
theorem div_neg1 {x y : Int} (hy : 0 < y) (h : x < 0) (hr : 0 < mag x % y) : x / y = -(mag x / y) - 1 ∧ x - (-(mag x / y) - 1) * y = x % y := by
  have e : mag x = -x := by rw [mag, if_pos h]
  have d := Int.ediv_mul_add_emod (mag x) y
  have l := Int.emod_lt_of_pos (mag x) hy
  have u := (Int.ediv_emod_unique (a := x) (b := y) (r := y - mag x % y) (q := -(mag x / y) - 1) hy).2 ⟨by rw [Int.mul_sub, Int.mul_neg, Int.mul_comm y]; omega, by omega, by omega⟩
  refine ⟨u.1, ?_⟩
  rw [u.2, Int.sub_mul, Int.neg_mul]; omega
set_option maxHeartbeats 4000000 in
set_option maxRecDepth 100000 in
theorem Divide_pos {u v : Value} {x y : Int} {L : Nat} {w : World} (hu : IntAt w u x L) (hv : IntAt w v y L) (y0 : 0 < y) (hL : L ≤ 50000) (hx : ¬ x < 0) :
    Calls Tryz.prog 241 #[u, v] w fun e w' => ∃ q r, e = .returned (.tuple #[q, r]) ∧ Ext w w' ∧ IntAt w' q (x / y) (L + 2) ∧ IntAt w' r (x % y) L ∧ NewInt w q ∧ NewInt w r := by
  have YS := Lib.hid (show x % y < 2 ^ (64 * L) by obtain ⟨a, k, c, -, m⟩ := hv.form; have yl := m.lt; rw [mag_of (by omega : 0 ≤ y)] at yl; exact Int.lt_trans (Int.emod_lt_of_pos x y0) yl)
  have Y0 := Lib.hid (Int.emod_nonneg x (show y ≠ 0 by omega))
  obtain ⟨a1, k1, c1, rfl, m1⟩ := hu.form
  obtain ⟨a2, k2, c2, rfl, m2⟩ := hv.form
  have M1 := Lib.hid m1
  have HU := Lib.hid (hu.mono (show L ≤ 2 * (L + 2) by omega))
  have HV := Lib.hid (hv.mono (show L ≤ L + 2 by omega))
  have sx : decide (x < 0) = false := by simp; omega
  have sy : decide (y < 0) = false := by simp; omega
  have my : mag y = y := mag_of (by omega)
  rw [my] at m2
  have M2 := Lib.hid m2
  rw [sx] at hu HU ⊢
  rw [sy] at hv HV ⊢
  obtain ⟨e1, e2⟩ := div_pos' (y := y) hx
  have nn : 0 ≤ mag x / y := Int.ediv_nonneg (mag_nn x) (by omega)
  have qs : (false && decide (0 < mag x / y)) = decide (mag x / y < 0) := by simp; omega
  have qm : mag x / y = mag (mag x / y) := (mag_of nn).symm
  rw [e1] at e2 ⊢
  have E2 := Lib.hid e2
  have QS := Lib.hid qs
  have QM := Lib.hid qm
  clear m1 m2 hu hv sx sy my e1 e2 hx nn qs qm
  go_enter Tryz.func241, Tryz.ntmps241
  go_wp2_with fail; refine (NDivide_new (M1.out.ext Ext.q) (M2.out.ext Ext.q) y0 (by omega)).mono ?_; rintro e v1 ⟨q1, r1, rfl, x1, h1, hr1, n1⟩; obtain ⟨c1, f1⟩ := x1.rules; have z1 := x1.size; have lq := fun o => c1 (w.heap.size) o (by first | (simp; done) | (simp; omega) | omega); have mq := fun o => f1 (w.heap.size) o (by first | (simp; done) | (simp; omega) | omega); have k1_0_0 := lq 0; have q1_0_0 := mq 0; have k1_0_1 := lq 1; have q1_0_1 := mq 1; clear lq mq; have lq := fun o => c1 (w.heap.size + 1) o (by first | (simp; done) | (simp; omega) | omega); have mq := fun o => f1 (w.heap.size + 1) o (by first | (simp; done) | (simp; omega) | omega); have k1_1_0 := lq 0; have q1_1_0 := mq 0; have k1_1_1 := lq 1; have q1_1_1 := mq 1; clear lq mq; have lq := fun o => c1 (w.heap.size + 2) o (by first | (simp; done) | (simp; omega) | omega); have mq := fun o => f1 (w.heap.size + 2) o (by first | (simp; done) | (simp; omega) | omega); have k1_2_0 := lq 0; have q1_2_0 := mq 0; have k1_2_1 := lq 1; have q1_2_1 := mq 1; clear lq mq; have lq := fun o => c1 (w.heap.size + 3) o (by first | (simp; done) | (simp; omega) | omega); have mq := fun o => f1 (w.heap.size + 3) o (by first | (simp; done) | (simp; omega) | omega); have k1_3_0 := lq 0; have q1_3_0 := mq 0; have k1_3_1 := lq 1; have q1_3_1 := mq 1; clear lq mq; have z1_0 : w.heap.size < v1.heap.size := (by (try simp at z1); omega); have z1_1 : w.heap.size + 1 < v1.heap.size := (by (try simp at z1); omega); have z1_2 : w.heap.size + 2 < v1.heap.size := (by (try simp at z1); omega); have z1_3 : w.heap.size + 3 < v1.heap.size := (by (try simp at z1); omega); (try simp at z1); clear c1 f1; simp [go_sem, *] at k1_0_0 q1_0_0 k1_0_1 q1_0_1 k1_1_0 q1_1_0 k1_1_1 q1_1_1 k1_2_0 q1_2_0 k1_2_1 q1_2_1 k1_3_0 q1_3_0 k1_3_1 q1_3_1
  have H1 := Lib.hid h1
  have N1 := Lib.hid n1
  obtain ⟨a3, k3, c3, rfl, -⟩ := h1.form
  obtain ⟨a4, k4, c4, rfl, -, z1, z2⟩ := hr1.form
  clear z1 z2
  clear h1 n1 hr1
  go_wp2_with fail; refine (Made_raw false H1.out _).mono ?_; rintro e v2 ⟨rfl, x2⟩; obtain ⟨c2, f2⟩ := x2.rules; have z2 := x2.size; have lq := fun o => c2 (w.heap.size) o (by first | (simp; done) | (simp; omega) | omega); have mq := fun o => f2 (w.heap.size) o (by first | (simp; done) | (simp; omega) | omega); have k2_0_0 := lq 0; have q2_0_0 := mq 0; have k2_0_1 := lq 1; have q2_0_1 := mq 1; clear lq mq; have lq := fun o => c2 (w.heap.size + 1) o (by first | (simp; done) | (simp; omega) | omega); have mq := fun o => f2 (w.heap.size + 1) o (by first | (simp; done) | (simp; omega) | omega); have k2_1_0 := lq 0; have q2_1_0 := mq 0; have k2_1_1 := lq 1; have q2_1_1 := mq 1; clear lq mq; have lq := fun o => c2 (w.heap.size + 2) o (by first | (simp; done) | (simp; omega) | omega); have mq := fun o => f2 (w.heap.size + 2) o (by first | (simp; done) | (simp; omega) | omega); have k2_2_0 := lq 0; have q2_2_0 := mq 0; have k2_2_1 := lq 1; have q2_2_1 := mq 1; clear lq mq; have lq := fun o => c2 (w.heap.size + 3) o (by first | (simp; done) | (simp; omega) | omega); have mq := fun o => f2 (w.heap.size + 3) o (by first | (simp; done) | (simp; omega) | omega); have k2_3_0 := lq 0; have q2_3_0 := mq 0; have k2_3_1 := lq 1; have q2_3_1 := mq 1; clear lq mq; have z2_0 : w.heap.size < v2.heap.size := (by (try simp at z2); omega); have z2_1 : w.heap.size + 1 < v2.heap.size := (by (try simp at z2); omega); have z2_2 : w.heap.size + 2 < v2.heap.size := (by (try simp at z2); omega); have z2_3 : w.heap.size + 3 < v2.heap.size := (by (try simp at z2); omega); (try simp at z2); clear c2 f2; simp [go_sem, *] at k2_0_0 q2_0_0 k2_0_1 q2_0_1 k2_1_0 q2_1_0 k2_1_1 q2_1_1 k2_2_0 q2_2_0 k2_2_1 q2_2_1 k2_3_0 q2_3_0 k2_3_1 q2_3_1
  have HQ := Lib.hid (show NatAt v1 (.slice a3 k3 c3) (mag (mag x / y)) L by rw [← QM.out]; exact H1.out)
  have OQ2 := Lib.hid (N1.out.off (g := w.heap.size + 1 + 1) (by simp))
  have OQ3 := Lib.hid (N1.out.off (g := w.heap.size + 1 + 1 + 1) (by simp))
  clear H1 QM M1 M2
  simp only [Bool.false_and] at QS x2
  go_wp2_with fail
  go_region_held3 (fun w' => w'.cell? ⟨w.heap.size, 0, none⟩ = some (.bool false) ∧ w'.cell? ⟨w.heap.size, 1, none⟩ = some (.slice a1 k1 c1) ∧ w'.cell? ⟨w.heap.size + 1, 0, none⟩ = some (.bool false) ∧ w'.cell? ⟨w.heap.size + 1, 1, none⟩ = some (.slice a2 k2 c2) ∧ w'.cell? ⟨v2.heap.size, 0, none⟩ = some (.bool (false)) ∧ w'.cell? ⟨v2.heap.size, 1, none⟩ = some (.slice a3 k3 c3) ∧ w.heap.size + 3 < w'.heap.size ∧ v2.heap.size < w'.heap.size ∧ Ext w w')
    (refine ⟨?_, ?_, ?_, ?_, ?_, ?_, ?_, ?_, ?_⟩ <;> first | (simp [go_sem, *]; done) | omega | (simp at z1; omega) | (simp at z2; omega) | (simp at z3; omega) | (simp at z4; omega) | exact Ext.q)
    (first
      | ((go_at_call 69; refine (Times_ref (IntAt.of (x := mag x / y) QS.out (NatAt.mono (L := L) (by repeat (first | with_reducible exact HQ.out | with_reducible refine NatAt.alloc' ?_ | with_reducible refine NatAt.drew' ?_ | with_reducible refine NatAt.drewN' ?_ | with_reducible refine NatAt.off ?_ OQ2.out | with_reducible refine NatAt.ext ?_ x1 | with_reducible refine NatAt.ext ?_ x2 | with_reducible refine NatAt.ext ?_ x3 | with_reducible refine NatAt.ext ?_ x4 | with_reducible refine NatAt.ext ?_ x5 | with_reducible refine NatAt.ext ?_ x6 | with_reducible refine NatAt.ext ?_ hx)) (show L ≤ L + 2 by omega))) (HV.out.ext Ext.q) (by omega)).mono ?_; rintro e v5 ⟨q5, rfl, x5, h5⟩; obtain ⟨c5, f5⟩ := x5.rules; have z5 := x5.size; have lq := fun o => c5 (w.heap.size) o (by first | (simp; done) | (simp; omega) | omega); have mq := fun o => f5 (w.heap.size) o (by first | (simp; done) | (simp; omega) | omega); have k5_0_0 := lq 0; have q5_0_0 := mq 0; have k5_0_1 := lq 1; have q5_0_1 := mq 1; clear lq mq; have lq := fun o => c5 (w.heap.size + 1) o (by first | (simp; done) | (simp; omega) | omega); have mq := fun o => f5 (w.heap.size + 1) o (by first | (simp; done) | (simp; omega) | omega); have k5_1_0 := lq 0; have q5_1_0 := mq 0; have k5_1_1 := lq 1; have q5_1_1 := mq 1; clear lq mq; have lq := fun o => c5 (w.heap.size + 2) o (by first | (simp; done) | (simp; omega) | omega); have mq := fun o => f5 (w.heap.size + 2) o (by first | (simp; done) | (simp; omega) | omega); have k5_2_0 := lq 0; have q5_2_0 := mq 0; have k5_2_1 := lq 1; have q5_2_1 := mq 1; clear lq mq; have lq := fun o => c5 (w.heap.size + 3) o (by first | (simp; done) | (simp; omega) | omega); have mq := fun o => f5 (w.heap.size + 3) o (by first | (simp; done) | (simp; omega) | omega); have k5_3_0 := lq 0; have q5_3_0 := mq 0; have k5_3_1 := lq 1; have q5_3_1 := mq 1; clear lq mq; have lq := fun o => c5 (v2.heap.size) o (by first | (simp; done) | (simp; omega) | omega); have mq := fun o => f5 (v2.heap.size) o (by first | (simp; done) | (simp; omega) | omega); have k5_v2_heap_size_0 := lq 0; have q5_v2_heap_size_0 := mq 0; have k5_v2_heap_size_1 := lq 1; have q5_v2_heap_size_1 := mq 1; clear lq mq; have z5_0 : w.heap.size < v5.heap.size := (by (try simp at z5); omega); have z5_1 : w.heap.size + 1 < v5.heap.size := (by (try simp at z5); omega); have z5_2 : w.heap.size + 2 < v5.heap.size := (by (try simp at z5); omega); have z5_3 : w.heap.size + 3 < v5.heap.size := (by (try simp at z5); omega); have z5_v2_heap_size : v2.heap.size < v5.heap.size := (by (try simp at z5); omega); (try simp at z5); clear c5 f5; simp [go_sem, *] at k5_0_0 q5_0_0 k5_0_1 q5_0_1 k5_1_0 q5_1_0 k5_1_1 q5_1_1 k5_2_0 q5_2_0 k5_2_1 q5_2_1 k5_3_0 q5_3_0 k5_3_1 q5_3_1 k5_v2_heap_size_0 q5_v2_heap_size_0 k5_v2_heap_size_1 q5_v2_heap_size_1); obtain ⟨h5, n5⟩ := h5; obtain ⟨a5, k5, c5, rfl, hf5⟩ := h5.form; have H5 := Lib.hid hf5; have N5 := Lib.hid (n5 _ _ rfl); have O5 := Lib.hid (N5.out.off (g := w.heap.size + 1 + 1) (by first | (simp; done) | (simp; omega) | omega)); clear h5 n5 hf5 HV)
      | ((go_at_call 73; refine (Less_ref (HU.out.ext Ext.q) (IntAt.of rfl (by repeat (first | with_reducible exact H5.out | with_reducible refine NatAt.alloc' ?_ | with_reducible refine NatAt.drew' ?_ | with_reducible refine NatAt.drewN' ?_ | with_reducible refine NatAt.off ?_ O5.out | with_reducible refine NatAt.ext ?_ x1 | with_reducible refine NatAt.ext ?_ x2 | with_reducible refine NatAt.ext ?_ x3 | with_reducible refine NatAt.ext ?_ x4 | with_reducible refine NatAt.ext ?_ x5 | with_reducible refine NatAt.ext ?_ x6 | with_reducible refine NatAt.ext ?_ hx))) (by omega)).mono ?_; rintro e v6 ⟨q6, rfl, x6, h6⟩; obtain ⟨c6, f6⟩ := x6.rules; have z6 := x6.size; have lq := fun o => c6 (w.heap.size) o (by first | (simp; done) | (simp; omega) | omega); have mq := fun o => f6 (w.heap.size) o (by first | (simp; done) | (simp; omega) | omega); have k6_0_0 := lq 0; have q6_0_0 := mq 0; have k6_0_1 := lq 1; have q6_0_1 := mq 1; clear lq mq; have lq := fun o => c6 (w.heap.size + 1) o (by first | (simp; done) | (simp; omega) | omega); have mq := fun o => f6 (w.heap.size + 1) o (by first | (simp; done) | (simp; omega) | omega); have k6_1_0 := lq 0; have q6_1_0 := mq 0; have k6_1_1 := lq 1; have q6_1_1 := mq 1; clear lq mq; have lq := fun o => c6 (w.heap.size + 2) o (by first | (simp; done) | (simp; omega) | omega); have mq := fun o => f6 (w.heap.size + 2) o (by first | (simp; done) | (simp; omega) | omega); have k6_2_0 := lq 0; have q6_2_0 := mq 0; have k6_2_1 := lq 1; have q6_2_1 := mq 1; clear lq mq; have lq := fun o => c6 (w.heap.size + 3) o (by first | (simp; done) | (simp; omega) | omega); have mq := fun o => f6 (w.heap.size + 3) o (by first | (simp; done) | (simp; omega) | omega); have k6_3_0 := lq 0; have q6_3_0 := mq 0; have k6_3_1 := lq 1; have q6_3_1 := mq 1; clear lq mq; have lq := fun o => c6 (v2.heap.size) o (by first | (simp; done) | (simp; omega) | omega); have mq := fun o => f6 (v2.heap.size) o (by first | (simp; done) | (simp; omega) | omega); have k6_v2_heap_size_0 := lq 0; have q6_v2_heap_size_0 := mq 0; have k6_v2_heap_size_1 := lq 1; have q6_v2_heap_size_1 := mq 1; clear lq mq; have z6_0 : w.heap.size < v6.heap.size := (by (try simp at z6); omega); have z6_1 : w.heap.size + 1 < v6.heap.size := (by (try simp at z6); omega); have z6_2 : w.heap.size + 2 < v6.heap.size := (by (try simp at z6); omega); have z6_3 : w.heap.size + 3 < v6.heap.size := (by (try simp at z6); omega); have z6_v2_heap_size : v2.heap.size < v6.heap.size := (by (try simp at z6); omega); (try simp at z6); clear c6 f6; simp [go_sem, *] at k6_0_0 q6_0_0 k6_0_1 q6_0_1 k6_1_0 q6_1_0 k6_1_1 q6_1_1 k6_2_0 q6_2_0 k6_2_1 q6_2_1 k6_3_0 q6_3_0 k6_3_1 q6_3_1 k6_v2_heap_size_0 q6_v2_heap_size_0 k6_v2_heap_size_1 q6_v2_heap_size_1); obtain ⟨h6, n6⟩ := h6; obtain ⟨a6, k6, c6, rfl, hf6⟩ := h6.form; have H6 := Lib.hid hf6; have N6 := Lib.hid (n6 _ _ rfl); clear h6 n6 hf6 HU H5))
  all_goals
    go_wp2
    simp [bodyPost, results, Tryz.results241, go_sem, *]
    have H7 := Lib.hid (show NatAt v6 (.slice a6 k6 c6) (mag (x % y)) L from NatAt.small (by rw [← E2.out]; exact H6.out) (by rw [mag_of Y0.out]; exact YS.out))
    have P2 := Lib.hid (N6.out.off (g := w.heap.size + 1 + 1) (by first | (simp; done) | (simp; omega) | omega))
    have P3 := Lib.hid (N6.out.off (g := w.heap.size + 1 + 1 + 1) (by first | (simp; done) | (simp; omega) | omega))
    exact ⟨_, _, ⟨rfl, rfl⟩, IntAt.of QS.out (NatAt.mono (L := L) (by repeat (first | with_reducible exact HQ.out | with_reducible refine NatAt.alloc' ?_ | with_reducible refine NatAt.drew' ?_ | with_reducible refine NatAt.drewN' ?_ | with_reducible refine NatAt.off ?_ OQ2.out | with_reducible refine NatAt.off ?_ OQ3.out | with_reducible refine NatAt.ext ?_ x1 | with_reducible refine NatAt.ext ?_ x2 | with_reducible refine NatAt.ext ?_ x3 | with_reducible refine NatAt.ext ?_ x4 | with_reducible refine NatAt.ext ?_ x5 | with_reducible refine NatAt.ext ?_ x6 | with_reducible refine NatAt.ext ?_ hx)) (by omega)), IntAt.of (by rw [E2.out]) (by repeat (first | with_reducible exact H7.out | with_reducible refine NatAt.alloc' ?_ | with_reducible refine NatAt.drew' ?_ | with_reducible refine NatAt.drewN' ?_ | with_reducible refine NatAt.off ?_ P2.out | with_reducible refine NatAt.off ?_ P3.out | with_reducible refine NatAt.ext ?_ x1 | with_reducible refine NatAt.ext ?_ x2 | with_reducible refine NatAt.ext ?_ x3 | with_reducible refine NatAt.ext ?_ x4 | with_reducible refine NatAt.ext ?_ x5 | with_reducible refine NatAt.ext ?_ x6 | with_reducible refine NatAt.ext ?_ hx)), NewInt.mk (N1.out.old (by first | (simp; done) | (simp; omega) | omega)), NewInt.mk (N6.out.old (by first | (simp; done) | (simp; omega) | omega))⟩
set_option maxHeartbeats 4000000 in
set_option maxRecDepth 100000 in
theorem Divide_neg0 {u v : Value} {x y : Int} {L : Nat} {w : World} (hu : IntAt w u x L) (hv : IntAt w v y L) (y0 : 0 < y) (hL : L ≤ 50000) (hx : x < 0) (hr : mag x % y = 0) :
    Calls Tryz.prog 241 #[u, v] w fun e w' => ∃ q r, e = .returned (.tuple #[q, r]) ∧ Ext w w' ∧ IntAt w' q (x / y) (L + 2) ∧ IntAt w' r (x % y) L ∧ NewInt w q ∧ NewInt w r := by
  have YS := Lib.hid (show x % y < 2 ^ (64 * L) by obtain ⟨a, k, c, -, m⟩ := hv.form; have yl := m.lt; rw [mag_of (by omega : 0 ≤ y)] at yl; exact Int.lt_trans (Int.emod_lt_of_pos x y0) yl)
  have Y0 := Lib.hid (Int.emod_nonneg x (show y ≠ 0 by omega))
  obtain ⟨a1, k1, c1, rfl, m1⟩ := hu.form
  obtain ⟨a2, k2, c2, rfl, m2⟩ := hv.form
  have M1 := Lib.hid m1
  have HU := Lib.hid (hu.mono (show L ≤ 2 * (L + 2) by omega))
  have HV := Lib.hid (hv.mono (show L ≤ L + 2 by omega))
  have sx : decide (x < 0) = true := by simp; omega
  have sy : decide (y < 0) = false := by simp; omega
  have my : mag y = y := mag_of (by omega)
  rw [my] at m2
  have M2 := Lib.hid m2
  rw [sx] at hu HU ⊢
  rw [sy] at hv HV ⊢
  obtain ⟨e1, e2⟩ := div_neg0 y0 hx hr
  have nn : 0 ≤ mag x / y := Int.ediv_nonneg (mag_nn x) (by omega)
  have qs : (true && decide (0 < mag x / y)) = decide (-(mag x / y) < 0) := by simp
  have qm : mag x / y = mag (-(mag x / y)) := (mag_ng nn).symm
  rw [e1] at ⊢
  have E2 := Lib.hid e2
  have QS := Lib.hid qs
  have QM := Lib.hid qm
  clear m1 m2 hu hv sx sy my e1 e2 hx nn qs qm
  go_enter Tryz.func241, Tryz.ntmps241
  go_wp2_with fail; refine (NDivide_new (M1.out.ext Ext.q) (M2.out.ext Ext.q) y0 (by omega)).mono ?_; rintro e v1 ⟨q1, r1, rfl, x1, h1, hr1, n1⟩; obtain ⟨c1, f1⟩ := x1.rules; have z1 := x1.size; have lq := fun o => c1 (w.heap.size) o (by first | (simp; done) | (simp; omega) | omega); have mq := fun o => f1 (w.heap.size) o (by first | (simp; done) | (simp; omega) | omega); have k1_0_0 := lq 0; have q1_0_0 := mq 0; have k1_0_1 := lq 1; have q1_0_1 := mq 1; clear lq mq; have lq := fun o => c1 (w.heap.size + 1) o (by first | (simp; done) | (simp; omega) | omega); have mq := fun o => f1 (w.heap.size + 1) o (by first | (simp; done) | (simp; omega) | omega); have k1_1_0 := lq 0; have q1_1_0 := mq 0; have k1_1_1 := lq 1; have q1_1_1 := mq 1; clear lq mq; have lq := fun o => c1 (w.heap.size + 2) o (by first | (simp; done) | (simp; omega) | omega); have mq := fun o => f1 (w.heap.size + 2) o (by first | (simp; done) | (simp; omega) | omega); have k1_2_0 := lq 0; have q1_2_0 := mq 0; have k1_2_1 := lq 1; have q1_2_1 := mq 1; clear lq mq; have lq := fun o => c1 (w.heap.size + 3) o (by first | (simp; done) | (simp; omega) | omega); have mq := fun o => f1 (w.heap.size + 3) o (by first | (simp; done) | (simp; omega) | omega); have k1_3_0 := lq 0; have q1_3_0 := mq 0; have k1_3_1 := lq 1; have q1_3_1 := mq 1; clear lq mq; have z1_0 : w.heap.size < v1.heap.size := (by (try simp at z1); omega); have z1_1 : w.heap.size + 1 < v1.heap.size := (by (try simp at z1); omega); have z1_2 : w.heap.size + 2 < v1.heap.size := (by (try simp at z1); omega); have z1_3 : w.heap.size + 3 < v1.heap.size := (by (try simp at z1); omega); (try simp at z1); clear c1 f1; simp [go_sem, *] at k1_0_0 q1_0_0 k1_0_1 q1_0_1 k1_1_0 q1_1_0 k1_1_1 q1_1_1 k1_2_0 q1_2_0 k1_2_1 q1_2_1 k1_3_0 q1_3_0 k1_3_1 q1_3_1
  have H1 := Lib.hid h1
  have N1 := Lib.hid n1
  obtain ⟨a3, k3, c3, rfl, -⟩ := h1.form
  obtain ⟨a4, k4, c4, rfl, -, z1, z2⟩ := hr1.form
  have kk : (k4 : Int) = 0 := by
    rcases Nat.eq_zero_or_pos k4 with h | h
    · omega
    · have := z2 h; omega
  clear z1 z2 hr
  clear h1 n1 hr1
  go_wp2_with fail; refine (Made_raw true H1.out _).mono ?_; rintro e v2 ⟨rfl, x2⟩; obtain ⟨c2, f2⟩ := x2.rules; have z2 := x2.size; have lq := fun o => c2 (w.heap.size) o (by first | (simp; done) | (simp; omega) | omega); have mq := fun o => f2 (w.heap.size) o (by first | (simp; done) | (simp; omega) | omega); have k2_0_0 := lq 0; have q2_0_0 := mq 0; have k2_0_1 := lq 1; have q2_0_1 := mq 1; clear lq mq; have lq := fun o => c2 (w.heap.size + 1) o (by first | (simp; done) | (simp; omega) | omega); have mq := fun o => f2 (w.heap.size + 1) o (by first | (simp; done) | (simp; omega) | omega); have k2_1_0 := lq 0; have q2_1_0 := mq 0; have k2_1_1 := lq 1; have q2_1_1 := mq 1; clear lq mq; have lq := fun o => c2 (w.heap.size + 2) o (by first | (simp; done) | (simp; omega) | omega); have mq := fun o => f2 (w.heap.size + 2) o (by first | (simp; done) | (simp; omega) | omega); have k2_2_0 := lq 0; have q2_2_0 := mq 0; have k2_2_1 := lq 1; have q2_2_1 := mq 1; clear lq mq; have lq := fun o => c2 (w.heap.size + 3) o (by first | (simp; done) | (simp; omega) | omega); have mq := fun o => f2 (w.heap.size + 3) o (by first | (simp; done) | (simp; omega) | omega); have k2_3_0 := lq 0; have q2_3_0 := mq 0; have k2_3_1 := lq 1; have q2_3_1 := mq 1; clear lq mq; have z2_0 : w.heap.size < v2.heap.size := (by (try simp at z2); omega); have z2_1 : w.heap.size + 1 < v2.heap.size := (by (try simp at z2); omega); have z2_2 : w.heap.size + 2 < v2.heap.size := (by (try simp at z2); omega); have z2_3 : w.heap.size + 3 < v2.heap.size := (by (try simp at z2); omega); (try simp at z2); clear c2 f2; simp [go_sem, *] at k2_0_0 q2_0_0 k2_0_1 q2_0_1 k2_1_0 q2_1_0 k2_1_1 q2_1_1 k2_2_0 q2_2_0 k2_2_1 q2_2_1 k2_3_0 q2_3_0 k2_3_1 q2_3_1
  have HQ := Lib.hid (show NatAt v1 (.slice a3 k3 c3) (mag (-(mag x / y))) L by rw [← QM.out]; exact H1.out)
  have OQ2 := Lib.hid (N1.out.off (g := w.heap.size + 1 + 1) (by simp))
  have OQ3 := Lib.hid (N1.out.off (g := w.heap.size + 1 + 1 + 1) (by simp))
  clear H1 QM M1 M2
  go_wp2_with fail
  go_region_held3 (fun w' => w'.cell? ⟨w.heap.size, 0, none⟩ = some (.bool true) ∧ w'.cell? ⟨w.heap.size, 1, none⟩ = some (.slice a1 k1 c1) ∧ w'.cell? ⟨w.heap.size + 1, 0, none⟩ = some (.bool false) ∧ w'.cell? ⟨w.heap.size + 1, 1, none⟩ = some (.slice a2 k2 c2) ∧ w'.cell? ⟨v2.heap.size, 0, none⟩ = some (.bool (decide (0 < mag x / y))) ∧ w'.cell? ⟨v2.heap.size, 1, none⟩ = some (.slice a3 k3 c3) ∧ w.heap.size + 3 < w'.heap.size ∧ v2.heap.size < w'.heap.size ∧ Ext w w')
    (refine ⟨?_, ?_, ?_, ?_, ?_, ?_, ?_, ?_, ?_⟩ <;> first | (simp [go_sem, *]; done) | omega | (simp at z1; omega) | (simp at z2; omega) | (simp at z3; omega) | (simp at z4; omega) | exact Ext.q)
    (first
      | ((go_at_call 69; refine (Times_ref (IntAt.of (x := -(mag x / y)) QS.out (NatAt.mono (L := L) (by repeat (first | with_reducible exact HQ.out | with_reducible refine NatAt.alloc' ?_ | with_reducible refine NatAt.drew' ?_ | with_reducible refine NatAt.drewN' ?_ | with_reducible refine NatAt.off ?_ OQ2.out | with_reducible refine NatAt.ext ?_ x1 | with_reducible refine NatAt.ext ?_ x2 | with_reducible refine NatAt.ext ?_ x3 | with_reducible refine NatAt.ext ?_ x4 | with_reducible refine NatAt.ext ?_ x5 | with_reducible refine NatAt.ext ?_ x6 | with_reducible refine NatAt.ext ?_ hx)) (show L ≤ L + 2 by omega))) (HV.out.ext Ext.q) (by omega)).mono ?_; rintro e v5 ⟨q5, rfl, x5, h5⟩; obtain ⟨c5, f5⟩ := x5.rules; have z5 := x5.size; have lq := fun o => c5 (w.heap.size) o (by first | (simp; done) | (simp; omega) | omega); have mq := fun o => f5 (w.heap.size) o (by first | (simp; done) | (simp; omega) | omega); have k5_0_0 := lq 0; have q5_0_0 := mq 0; have k5_0_1 := lq 1; have q5_0_1 := mq 1; clear lq mq; have lq := fun o => c5 (w.heap.size + 1) o (by first | (simp; done) | (simp; omega) | omega); have mq := fun o => f5 (w.heap.size + 1) o (by first | (simp; done) | (simp; omega) | omega); have k5_1_0 := lq 0; have q5_1_0 := mq 0; have k5_1_1 := lq 1; have q5_1_1 := mq 1; clear lq mq; have lq := fun o => c5 (w.heap.size + 2) o (by first | (simp; done) | (simp; omega) | omega); have mq := fun o => f5 (w.heap.size + 2) o (by first | (simp; done) | (simp; omega) | omega); have k5_2_0 := lq 0; have q5_2_0 := mq 0; have k5_2_1 := lq 1; have q5_2_1 := mq 1; clear lq mq; have lq := fun o => c5 (w.heap.size + 3) o (by first | (simp; done) | (simp; omega) | omega); have mq := fun o => f5 (w.heap.size + 3) o (by first | (simp; done) | (simp; omega) | omega); have k5_3_0 := lq 0; have q5_3_0 := mq 0; have k5_3_1 := lq 1; have q5_3_1 := mq 1; clear lq mq; have lq := fun o => c5 (v2.heap.size) o (by first | (simp; done) | (simp; omega) | omega); have mq := fun o => f5 (v2.heap.size) o (by first | (simp; done) | (simp; omega) | omega); have k5_v2_heap_size_0 := lq 0; have q5_v2_heap_size_0 := mq 0; have k5_v2_heap_size_1 := lq 1; have q5_v2_heap_size_1 := mq 1; clear lq mq; have z5_0 : w.heap.size < v5.heap.size := (by (try simp at z5); omega); have z5_1 : w.heap.size + 1 < v5.heap.size := (by (try simp at z5); omega); have z5_2 : w.heap.size + 2 < v5.heap.size := (by (try simp at z5); omega); have z5_3 : w.heap.size + 3 < v5.heap.size := (by (try simp at z5); omega); have z5_v2_heap_size : v2.heap.size < v5.heap.size := (by (try simp at z5); omega); (try simp at z5); clear c5 f5; simp [go_sem, *] at k5_0_0 q5_0_0 k5_0_1 q5_0_1 k5_1_0 q5_1_0 k5_1_1 q5_1_1 k5_2_0 q5_2_0 k5_2_1 q5_2_1 k5_3_0 q5_3_0 k5_3_1 q5_3_1 k5_v2_heap_size_0 q5_v2_heap_size_0 k5_v2_heap_size_1 q5_v2_heap_size_1); obtain ⟨h5, n5⟩ := h5; obtain ⟨a5, k5, c5, rfl, hf5⟩ := h5.form; have H5 := Lib.hid hf5; have N5 := Lib.hid (n5 _ _ rfl); have O5 := Lib.hid (N5.out.off (g := w.heap.size + 1 + 1) (by first | (simp; done) | (simp; omega) | omega)); clear h5 n5 hf5 HV)
      | ((go_at_call 73; refine (Less_ref (HU.out.ext Ext.q) (IntAt.of rfl (by repeat (first | with_reducible exact H5.out | with_reducible refine NatAt.alloc' ?_ | with_reducible refine NatAt.drew' ?_ | with_reducible refine NatAt.drewN' ?_ | with_reducible refine NatAt.off ?_ O5.out | with_reducible refine NatAt.ext ?_ x1 | with_reducible refine NatAt.ext ?_ x2 | with_reducible refine NatAt.ext ?_ x3 | with_reducible refine NatAt.ext ?_ x4 | with_reducible refine NatAt.ext ?_ x5 | with_reducible refine NatAt.ext ?_ x6 | with_reducible refine NatAt.ext ?_ hx))) (by omega)).mono ?_; rintro e v6 ⟨q6, rfl, x6, h6⟩; obtain ⟨c6, f6⟩ := x6.rules; have z6 := x6.size; have lq := fun o => c6 (w.heap.size) o (by first | (simp; done) | (simp; omega) | omega); have mq := fun o => f6 (w.heap.size) o (by first | (simp; done) | (simp; omega) | omega); have k6_0_0 := lq 0; have q6_0_0 := mq 0; have k6_0_1 := lq 1; have q6_0_1 := mq 1; clear lq mq; have lq := fun o => c6 (w.heap.size + 1) o (by first | (simp; done) | (simp; omega) | omega); have mq := fun o => f6 (w.heap.size + 1) o (by first | (simp; done) | (simp; omega) | omega); have k6_1_0 := lq 0; have q6_1_0 := mq 0; have k6_1_1 := lq 1; have q6_1_1 := mq 1; clear lq mq; have lq := fun o => c6 (w.heap.size + 2) o (by first | (simp; done) | (simp; omega) | omega); have mq := fun o => f6 (w.heap.size + 2) o (by first | (simp; done) | (simp; omega) | omega); have k6_2_0 := lq 0; have q6_2_0 := mq 0; have k6_2_1 := lq 1; have q6_2_1 := mq 1; clear lq mq; have lq := fun o => c6 (w.heap.size + 3) o (by first | (simp; done) | (simp; omega) | omega); have mq := fun o => f6 (w.heap.size + 3) o (by first | (simp; done) | (simp; omega) | omega); have k6_3_0 := lq 0; have q6_3_0 := mq 0; have k6_3_1 := lq 1; have q6_3_1 := mq 1; clear lq mq; have lq := fun o => c6 (v2.heap.size) o (by first | (simp; done) | (simp; omega) | omega); have mq := fun o => f6 (v2.heap.size) o (by first | (simp; done) | (simp; omega) | omega); have k6_v2_heap_size_0 := lq 0; have q6_v2_heap_size_0 := mq 0; have k6_v2_heap_size_1 := lq 1; have q6_v2_heap_size_1 := mq 1; clear lq mq; have z6_0 : w.heap.size < v6.heap.size := (by (try simp at z6); omega); have z6_1 : w.heap.size + 1 < v6.heap.size := (by (try simp at z6); omega); have z6_2 : w.heap.size + 2 < v6.heap.size := (by (try simp at z6); omega); have z6_3 : w.heap.size + 3 < v6.heap.size := (by (try simp at z6); omega); have z6_v2_heap_size : v2.heap.size < v6.heap.size := (by (try simp at z6); omega); (try simp at z6); clear c6 f6; simp [go_sem, *] at k6_0_0 q6_0_0 k6_0_1 q6_0_1 k6_1_0 q6_1_0 k6_1_1 q6_1_1 k6_2_0 q6_2_0 k6_2_1 q6_2_1 k6_3_0 q6_3_0 k6_3_1 q6_3_1 k6_v2_heap_size_0 q6_v2_heap_size_0 k6_v2_heap_size_1 q6_v2_heap_size_1); obtain ⟨h6, n6⟩ := h6; obtain ⟨a6, k6, c6, rfl, hf6⟩ := h6.form; have H6 := Lib.hid hf6; have N6 := Lib.hid (n6 _ _ rfl); clear h6 n6 hf6 HU H5))
  all_goals
    go_wp2
    simp [bodyPost, results, Tryz.results241, go_sem, *]
    have H7 := Lib.hid (show NatAt v6 (.slice a6 k6 c6) (mag (x % y)) L from NatAt.small (by rw [← E2.out]; exact H6.out) (by rw [mag_of Y0.out]; exact YS.out))
    have P2 := Lib.hid (N6.out.off (g := w.heap.size + 1 + 1) (by first | (simp; done) | (simp; omega) | omega))
    have P3 := Lib.hid (N6.out.off (g := w.heap.size + 1 + 1 + 1) (by first | (simp; done) | (simp; omega) | omega))
    exact ⟨_, _, ⟨rfl, rfl⟩, IntAt.of QS.out (NatAt.mono (L := L) (by repeat (first | with_reducible exact HQ.out | with_reducible refine NatAt.alloc' ?_ | with_reducible refine NatAt.drew' ?_ | with_reducible refine NatAt.drewN' ?_ | with_reducible refine NatAt.off ?_ OQ2.out | with_reducible refine NatAt.off ?_ OQ3.out | with_reducible refine NatAt.ext ?_ x1 | with_reducible refine NatAt.ext ?_ x2 | with_reducible refine NatAt.ext ?_ x3 | with_reducible refine NatAt.ext ?_ x4 | with_reducible refine NatAt.ext ?_ x5 | with_reducible refine NatAt.ext ?_ x6 | with_reducible refine NatAt.ext ?_ hx)) (by omega)), IntAt.of (by rw [E2.out]) (by repeat (first | with_reducible exact H7.out | with_reducible refine NatAt.alloc' ?_ | with_reducible refine NatAt.drew' ?_ | with_reducible refine NatAt.drewN' ?_ | with_reducible refine NatAt.off ?_ P2.out | with_reducible refine NatAt.off ?_ P3.out | with_reducible refine NatAt.ext ?_ x1 | with_reducible refine NatAt.ext ?_ x2 | with_reducible refine NatAt.ext ?_ x3 | with_reducible refine NatAt.ext ?_ x4 | with_reducible refine NatAt.ext ?_ x5 | with_reducible refine NatAt.ext ?_ x6 | with_reducible refine NatAt.ext ?_ hx)), NewInt.mk (N1.out.old (by first | (simp; done) | (simp; omega) | omega)), NewInt.mk (N6.out.old (by first | (simp; done) | (simp; omega) | omega))⟩
set_option maxHeartbeats 4000000 in
set_option maxRecDepth 100000 in
theorem Divide_neg1 {u v : Value} {x y : Int} {L : Nat} {w : World} (hu : IntAt w u x L) (hv : IntAt w v y L) (y0 : 0 < y) (hL : L ≤ 50000) (hx : x < 0) (hr : 0 < mag x % y) :
    Calls Tryz.prog 241 #[u, v] w fun e w' => ∃ q r, e = .returned (.tuple #[q, r]) ∧ Ext w w' ∧ IntAt w' q (x / y) (L + 2) ∧ IntAt w' r (x % y) L ∧ NewInt w q ∧ NewInt w r := by
  have YS := Lib.hid (show x % y < 2 ^ (64 * L) by obtain ⟨a, k, c, -, m⟩ := hv.form; have yl := m.lt; rw [mag_of (by omega : 0 ≤ y)] at yl; exact Int.lt_trans (Int.emod_lt_of_pos x y0) yl)
  have Y0 := Lib.hid (Int.emod_nonneg x (show y ≠ 0 by omega))
  obtain ⟨a1, k1, c1, rfl, m1⟩ := hu.form
  obtain ⟨a2, k2, c2, rfl, m2⟩ := hv.form
  have M1 := Lib.hid m1
  have HU := Lib.hid (hu.mono (show L ≤ 2 * (L + 2) by omega))
  have HV := Lib.hid (hv.mono (show L ≤ L + 2 by omega))
  have sx : decide (x < 0) = true := by simp; omega
  have sy : decide (y < 0) = false := by simp; omega
  have my : mag y = y := mag_of (by omega)
  rw [my] at m2
  have M2 := Lib.hid m2
  rw [sx] at hu HU ⊢
  rw [sy] at hv HV ⊢
  obtain ⟨e1, e2⟩ := div_neg1 y0 hx hr
  have nn : 0 ≤ mag x / y := Int.ediv_nonneg (mag_nn x) (by omega)
  have qs : (true && decide (0 < mag x / y)) = decide (-(mag x / y) < 0) := by simp
  have qm : mag x / y = mag (-(mag x / y)) := (mag_ng nn).symm
  rw [e1] at ⊢
  have E2 := Lib.hid e2
  have QS := Lib.hid qs
  have QM := Lib.hid qm
  clear m1 m2 hu hv sx sy my e1 e2 hx nn qs qm
  go_enter Tryz.func241, Tryz.ntmps241
  go_wp2_with fail; refine (NDivide_new (M1.out.ext Ext.q) (M2.out.ext Ext.q) y0 (by omega)).mono ?_; rintro e v1 ⟨q1, r1, rfl, x1, h1, hr1, n1⟩; obtain ⟨c1, f1⟩ := x1.rules; have z1 := x1.size; have lq := fun o => c1 (w.heap.size) o (by first | (simp; done) | (simp; omega) | omega); have mq := fun o => f1 (w.heap.size) o (by first | (simp; done) | (simp; omega) | omega); have k1_0_0 := lq 0; have q1_0_0 := mq 0; have k1_0_1 := lq 1; have q1_0_1 := mq 1; clear lq mq; have lq := fun o => c1 (w.heap.size + 1) o (by first | (simp; done) | (simp; omega) | omega); have mq := fun o => f1 (w.heap.size + 1) o (by first | (simp; done) | (simp; omega) | omega); have k1_1_0 := lq 0; have q1_1_0 := mq 0; have k1_1_1 := lq 1; have q1_1_1 := mq 1; clear lq mq; have lq := fun o => c1 (w.heap.size + 2) o (by first | (simp; done) | (simp; omega) | omega); have mq := fun o => f1 (w.heap.size + 2) o (by first | (simp; done) | (simp; omega) | omega); have k1_2_0 := lq 0; have q1_2_0 := mq 0; have k1_2_1 := lq 1; have q1_2_1 := mq 1; clear lq mq; have lq := fun o => c1 (w.heap.size + 3) o (by first | (simp; done) | (simp; omega) | omega); have mq := fun o => f1 (w.heap.size + 3) o (by first | (simp; done) | (simp; omega) | omega); have k1_3_0 := lq 0; have q1_3_0 := mq 0; have k1_3_1 := lq 1; have q1_3_1 := mq 1; clear lq mq; have z1_0 : w.heap.size < v1.heap.size := (by (try simp at z1); omega); have z1_1 : w.heap.size + 1 < v1.heap.size := (by (try simp at z1); omega); have z1_2 : w.heap.size + 2 < v1.heap.size := (by (try simp at z1); omega); have z1_3 : w.heap.size + 3 < v1.heap.size := (by (try simp at z1); omega); (try simp at z1); clear c1 f1; simp [go_sem, *] at k1_0_0 q1_0_0 k1_0_1 q1_0_1 k1_1_0 q1_1_0 k1_1_1 q1_1_1 k1_2_0 q1_2_0 k1_2_1 q1_2_1 k1_3_0 q1_3_0 k1_3_1 q1_3_1
  have H1 := Lib.hid h1
  have N1 := Lib.hid n1
  obtain ⟨a3, k3, c3, rfl, -⟩ := h1.form
  obtain ⟨a4, k4, c4, rfl, -, z1, z2⟩ := hr1.form
  have kk : (0 : Int) < (k4 : Int) := by
    rcases Nat.eq_zero_or_pos k4 with h | h
    · have := z1 h; omega
    · omega
  clear z1 z2 hr
  clear h1 n1 hr1
  go_wp2_with fail; refine (Made_raw true H1.out _).mono ?_; rintro e v2 ⟨rfl, x2⟩; obtain ⟨c2, f2⟩ := x2.rules; have z2 := x2.size; have lq := fun o => c2 (w.heap.size) o (by first | (simp; done) | (simp; omega) | omega); have mq := fun o => f2 (w.heap.size) o (by first | (simp; done) | (simp; omega) | omega); have k2_0_0 := lq 0; have q2_0_0 := mq 0; have k2_0_1 := lq 1; have q2_0_1 := mq 1; clear lq mq; have lq := fun o => c2 (w.heap.size + 1) o (by first | (simp; done) | (simp; omega) | omega); have mq := fun o => f2 (w.heap.size + 1) o (by first | (simp; done) | (simp; omega) | omega); have k2_1_0 := lq 0; have q2_1_0 := mq 0; have k2_1_1 := lq 1; have q2_1_1 := mq 1; clear lq mq; have lq := fun o => c2 (w.heap.size + 2) o (by first | (simp; done) | (simp; omega) | omega); have mq := fun o => f2 (w.heap.size + 2) o (by first | (simp; done) | (simp; omega) | omega); have k2_2_0 := lq 0; have q2_2_0 := mq 0; have k2_2_1 := lq 1; have q2_2_1 := mq 1; clear lq mq; have lq := fun o => c2 (w.heap.size + 3) o (by first | (simp; done) | (simp; omega) | omega); have mq := fun o => f2 (w.heap.size + 3) o (by first | (simp; done) | (simp; omega) | omega); have k2_3_0 := lq 0; have q2_3_0 := mq 0; have k2_3_1 := lq 1; have q2_3_1 := mq 1; clear lq mq; have z2_0 : w.heap.size < v2.heap.size := (by (try simp at z2); omega); have z2_1 : w.heap.size + 1 < v2.heap.size := (by (try simp at z2); omega); have z2_2 : w.heap.size + 2 < v2.heap.size := (by (try simp at z2); omega); have z2_3 : w.heap.size + 3 < v2.heap.size := (by (try simp at z2); omega); (try simp at z2); clear c2 f2; simp [go_sem, *] at k2_0_0 q2_0_0 k2_0_1 q2_0_1 k2_1_0 q2_1_0 k2_1_1 q2_1_1 k2_2_0 q2_2_0 k2_2_1 q2_2_1 k2_3_0 q2_3_0 k2_3_1 q2_3_1
  have HQ := Lib.hid (show NatAt v1 (.slice a3 k3 c3) (mag (-(mag x / y))) L by rw [← QM.out]; exact H1.out)
  have OQ2 := Lib.hid (N1.out.off (g := w.heap.size + 1 + 1) (by simp))
  have OQ3 := Lib.hid (N1.out.off (g := w.heap.size + 1 + 1 + 1) (by simp))
  clear H1 QM M1 M2
  go_wp2_with fail
  go_region_with
    (first
      | ((go_at_call 67; refine (From_ref 1 _ (by omega) (by omega)).mono ?_; rintro e v3 ⟨q3, rfl, x3, h3⟩; obtain ⟨c3, f3⟩ := x3.rules; have z3 := x3.size; have lq := fun o => c3 (w.heap.size) o (by first | (simp; done) | (simp; omega) | omega); have mq := fun o => f3 (w.heap.size) o (by first | (simp; done) | (simp; omega) | omega); have k3_0_0 := lq 0; have q3_0_0 := mq 0; have k3_0_1 := lq 1; have q3_0_1 := mq 1; clear lq mq; have lq := fun o => c3 (w.heap.size + 1) o (by first | (simp; done) | (simp; omega) | omega); have mq := fun o => f3 (w.heap.size + 1) o (by first | (simp; done) | (simp; omega) | omega); have k3_1_0 := lq 0; have q3_1_0 := mq 0; have k3_1_1 := lq 1; have q3_1_1 := mq 1; clear lq mq; have lq := fun o => c3 (w.heap.size + 2) o (by first | (simp; done) | (simp; omega) | omega); have mq := fun o => f3 (w.heap.size + 2) o (by first | (simp; done) | (simp; omega) | omega); have k3_2_0 := lq 0; have q3_2_0 := mq 0; have k3_2_1 := lq 1; have q3_2_1 := mq 1; clear lq mq; have lq := fun o => c3 (w.heap.size + 3) o (by first | (simp; done) | (simp; omega) | omega); have mq := fun o => f3 (w.heap.size + 3) o (by first | (simp; done) | (simp; omega) | omega); have k3_3_0 := lq 0; have q3_3_0 := mq 0; have k3_3_1 := lq 1; have q3_3_1 := mq 1; clear lq mq; have lq := fun o => c3 (v2.heap.size) o (by first | (simp; done) | (simp; omega) | omega); have mq := fun o => f3 (v2.heap.size) o (by first | (simp; done) | (simp; omega) | omega); have k3_v2_heap_size_0 := lq 0; have q3_v2_heap_size_0 := mq 0; have k3_v2_heap_size_1 := lq 1; have q3_v2_heap_size_1 := mq 1; clear lq mq; have z3_0 : w.heap.size < v3.heap.size := (by (try simp at z3); omega); have z3_1 : w.heap.size + 1 < v3.heap.size := (by (try simp at z3); omega); have z3_2 : w.heap.size + 2 < v3.heap.size := (by (try simp at z3); omega); have z3_3 : w.heap.size + 3 < v3.heap.size := (by (try simp at z3); omega); have z3_v2_heap_size : v2.heap.size < v3.heap.size := (by (try simp at z3); omega); (try simp at z3); clear c3 f3; simp [go_sem, *] at k3_0_0 q3_0_0 k3_0_1 q3_0_1 k3_1_0 q3_1_0 k3_1_1 q3_1_1 k3_2_0 q3_2_0 k3_2_1 q3_2_1 k3_3_0 q3_3_0 k3_3_1 q3_3_1 k3_v2_heap_size_0 q3_v2_heap_size_0 k3_v2_heap_size_1 q3_v2_heap_size_1); have H3 := Lib.hid (h3.mono (show 1 ≤ L + 1 by omega)); clear h3)
      | ((go_at_call 73; refine (Less_ref (IntAt.of (x := -(mag x / y)) QS.out (NatAt.mono (L := L) (by repeat (first | with_reducible exact HQ.out | with_reducible refine NatAt.alloc' ?_ | with_reducible refine NatAt.drew' ?_ | with_reducible refine NatAt.drewN' ?_ | with_reducible refine NatAt.off ?_ OQ2.out | with_reducible refine NatAt.ext ?_ x1 | with_reducible refine NatAt.ext ?_ x2 | with_reducible refine NatAt.ext ?_ x3 | with_reducible refine NatAt.ext ?_ x4 | with_reducible refine NatAt.ext ?_ x5 | with_reducible refine NatAt.ext ?_ x6 | with_reducible refine NatAt.ext ?_ hx)) (show L ≤ L + 1 by omega))) (H3.out.ext Ext.q) (by omega)).mono ?_; rintro e v4 ⟨q4, rfl, x4, h4⟩; obtain ⟨c4, f4⟩ := x4.rules; have z4 := x4.size; have lq := fun o => c4 (w.heap.size) o (by first | (simp; done) | (simp; omega) | omega); have mq := fun o => f4 (w.heap.size) o (by first | (simp; done) | (simp; omega) | omega); have k4_0_0 := lq 0; have q4_0_0 := mq 0; have k4_0_1 := lq 1; have q4_0_1 := mq 1; clear lq mq; have lq := fun o => c4 (w.heap.size + 1) o (by first | (simp; done) | (simp; omega) | omega); have mq := fun o => f4 (w.heap.size + 1) o (by first | (simp; done) | (simp; omega) | omega); have k4_1_0 := lq 0; have q4_1_0 := mq 0; have k4_1_1 := lq 1; have q4_1_1 := mq 1; clear lq mq; have lq := fun o => c4 (w.heap.size + 2) o (by first | (simp; done) | (simp; omega) | omega); have mq := fun o => f4 (w.heap.size + 2) o (by first | (simp; done) | (simp; omega) | omega); have k4_2_0 := lq 0; have q4_2_0 := mq 0; have k4_2_1 := lq 1; have q4_2_1 := mq 1; clear lq mq; have lq := fun o => c4 (w.heap.size + 3) o (by first | (simp; done) | (simp; omega) | omega); have mq := fun o => f4 (w.heap.size + 3) o (by first | (simp; done) | (simp; omega) | omega); have k4_3_0 := lq 0; have q4_3_0 := mq 0; have k4_3_1 := lq 1; have q4_3_1 := mq 1; clear lq mq; have lq := fun o => c4 (v2.heap.size) o (by first | (simp; done) | (simp; omega) | omega); have mq := fun o => f4 (v2.heap.size) o (by first | (simp; done) | (simp; omega) | omega); have k4_v2_heap_size_0 := lq 0; have q4_v2_heap_size_0 := mq 0; have k4_v2_heap_size_1 := lq 1; have q4_v2_heap_size_1 := mq 1; clear lq mq; have z4_0 : w.heap.size < v4.heap.size := (by (try simp at z4); omega); have z4_1 : w.heap.size + 1 < v4.heap.size := (by (try simp at z4); omega); have z4_2 : w.heap.size + 2 < v4.heap.size := (by (try simp at z4); omega); have z4_3 : w.heap.size + 3 < v4.heap.size := (by (try simp at z4); omega); have z4_v2_heap_size : v2.heap.size < v4.heap.size := (by (try simp at z4); omega); (try simp at z4); clear c4 f4; simp [go_sem, *] at k4_0_0 q4_0_0 k4_0_1 q4_0_1 k4_1_0 q4_1_0 k4_1_1 q4_1_1 k4_2_0 q4_2_0 k4_2_1 q4_2_1 k4_3_0 q4_3_0 k4_3_1 q4_3_1 k4_v2_heap_size_0 q4_v2_heap_size_0 k4_v2_heap_size_1 q4_v2_heap_size_1); obtain ⟨h4, n4⟩ := h4; obtain ⟨a7, k7, c7, rfl, hf4⟩ := h4.form; have H4 := Lib.hid hf4; have N4 := Lib.hid (n4 _ _ rfl); clear h4 n4 hf4 H3 HQ))
  all_goals
    go_wp2_with fail
    have HR := Lib.hid (show NatAt v4 (.slice a7 k7 c7) (mag (-(mag x / y) - 1)) (L + 1 + 1) from H4.out)
    have OQ1 := Lib.hid (N4.out.off (g := v2.heap.size) (by first | (simp; done) | (simp; omega) | omega))
    clear OQ2 OQ3 QS
    have OQ2 := Lib.hid (N4.out.off (g := w.heap.size + 1 + 1) (by first | (simp; done) | (simp; omega) | omega))
    have OQ3 := Lib.hid (N4.out.off (g := w.heap.size + 1 + 1 + 1) (by first | (simp; done) | (simp; omega) | omega))
    clear H4
    go_region_held3 (fun w' => w'.cell? ⟨w.heap.size, 0, none⟩ = some (.bool true) ∧ w'.cell? ⟨w.heap.size, 1, none⟩ = some (.slice a1 k1 c1) ∧ w'.cell? ⟨w.heap.size + 1, 0, none⟩ = some (.bool false) ∧ w'.cell? ⟨w.heap.size + 1, 1, none⟩ = some (.slice a2 k2 c2) ∧ w'.cell? ⟨v2.heap.size, 0, none⟩ = some (.bool (decide (-(mag x / y) - 1 < 0))) ∧ w'.cell? ⟨v2.heap.size, 1, none⟩ = some (.slice a7 k7 c7) ∧ w.heap.size + 3 < w'.heap.size ∧ v2.heap.size < w'.heap.size ∧ Ext w w')
      (refine ⟨?_, ?_, ?_, ?_, ?_, ?_, ?_, ?_, ?_⟩ <;> first | (simp [go_sem, *]; done) | omega | (simp at z1; omega) | (simp at z2; omega) | (simp at z3; omega) | (simp at z4; omega) | exact Ext.q)
      (first
        | ((go_at_call 69; refine (Times_ref (IntAt.of (x := -(mag x / y) - 1) rfl (NatAt.mono (L := L + 1 + 1) (by repeat (first | with_reducible exact HR.out | with_reducible refine NatAt.alloc' ?_ | with_reducible refine NatAt.drew' ?_ | with_reducible refine NatAt.drewN' ?_ | with_reducible refine NatAt.off ?_ OQ1.out | with_reducible refine NatAt.off ?_ OQ2.out | with_reducible refine NatAt.ext ?_ x1 | with_reducible refine NatAt.ext ?_ x2 | with_reducible refine NatAt.ext ?_ x3 | with_reducible refine NatAt.ext ?_ x4 | with_reducible refine NatAt.ext ?_ x5 | with_reducible refine NatAt.ext ?_ x6 | with_reducible refine NatAt.ext ?_ hx)) (show L + 1 + 1 ≤ L + 2 by omega))) (HV.out.ext Ext.q) (by omega)).mono ?_; rintro e v5 ⟨q5, rfl, x5, h5⟩; obtain ⟨c5, f5⟩ := x5.rules; have z5 := x5.size; have lq := fun o => c5 (w.heap.size) o (by first | (simp; done) | (simp; omega) | omega); have mq := fun o => f5 (w.heap.size) o (by first | (simp; done) | (simp; omega) | omega); have k5_0_0 := lq 0; have q5_0_0 := mq 0; have k5_0_1 := lq 1; have q5_0_1 := mq 1; clear lq mq; have lq := fun o => c5 (w.heap.size + 1) o (by first | (simp; done) | (simp; omega) | omega); have mq := fun o => f5 (w.heap.size + 1) o (by first | (simp; done) | (simp; omega) | omega); have k5_1_0 := lq 0; have q5_1_0 := mq 0; have k5_1_1 := lq 1; have q5_1_1 := mq 1; clear lq mq; have lq := fun o => c5 (w.heap.size + 2) o (by first | (simp; done) | (simp; omega) | omega); have mq := fun o => f5 (w.heap.size + 2) o (by first | (simp; done) | (simp; omega) | omega); have k5_2_0 := lq 0; have q5_2_0 := mq 0; have k5_2_1 := lq 1; have q5_2_1 := mq 1; clear lq mq; have lq := fun o => c5 (w.heap.size + 3) o (by first | (simp; done) | (simp; omega) | omega); have mq := fun o => f5 (w.heap.size + 3) o (by first | (simp; done) | (simp; omega) | omega); have k5_3_0 := lq 0; have q5_3_0 := mq 0; have k5_3_1 := lq 1; have q5_3_1 := mq 1; clear lq mq; have lq := fun o => c5 (v2.heap.size) o (by first | (simp; done) | (simp; omega) | omega); have mq := fun o => f5 (v2.heap.size) o (by first | (simp; done) | (simp; omega) | omega); have k5_v2_heap_size_0 := lq 0; have q5_v2_heap_size_0 := mq 0; have k5_v2_heap_size_1 := lq 1; have q5_v2_heap_size_1 := mq 1; clear lq mq; have z5_0 : w.heap.size < v5.heap.size := (by (try simp at z5); omega); have z5_1 : w.heap.size + 1 < v5.heap.size := (by (try simp at z5); omega); have z5_2 : w.heap.size + 2 < v5.heap.size := (by (try simp at z5); omega); have z5_3 : w.heap.size + 3 < v5.heap.size := (by (try simp at z5); omega); have z5_v2_heap_size : v2.heap.size < v5.heap.size := (by (try simp at z5); omega); (try simp at z5); clear c5 f5; simp [go_sem, *] at k5_0_0 q5_0_0 k5_0_1 q5_0_1 k5_1_0 q5_1_0 k5_1_1 q5_1_1 k5_2_0 q5_2_0 k5_2_1 q5_2_1 k5_3_0 q5_3_0 k5_3_1 q5_3_1 k5_v2_heap_size_0 q5_v2_heap_size_0 k5_v2_heap_size_1 q5_v2_heap_size_1); obtain ⟨h5, n5⟩ := h5; obtain ⟨a5, k5, c5, rfl, hf5⟩ := h5.form; have H5 := Lib.hid hf5; have N5 := Lib.hid (n5 _ _ rfl); have O5 := Lib.hid (N5.out.off (g := w.heap.size + 1 + 1) (by first | (simp; done) | (simp; omega) | omega)); clear h5 n5 hf5 HV)
        | ((go_at_call 73; refine (Less_ref (HU.out.ext Ext.q) (IntAt.of rfl (by repeat (first | with_reducible exact H5.out | with_reducible refine NatAt.alloc' ?_ | with_reducible refine NatAt.drew' ?_ | with_reducible refine NatAt.drewN' ?_ | with_reducible refine NatAt.off ?_ O5.out | with_reducible refine NatAt.ext ?_ x1 | with_reducible refine NatAt.ext ?_ x2 | with_reducible refine NatAt.ext ?_ x3 | with_reducible refine NatAt.ext ?_ x4 | with_reducible refine NatAt.ext ?_ x5 | with_reducible refine NatAt.ext ?_ x6 | with_reducible refine NatAt.ext ?_ hx))) (by omega)).mono ?_; rintro e v6 ⟨q6, rfl, x6, h6⟩; obtain ⟨c6, f6⟩ := x6.rules; have z6 := x6.size; have lq := fun o => c6 (w.heap.size) o (by first | (simp; done) | (simp; omega) | omega); have mq := fun o => f6 (w.heap.size) o (by first | (simp; done) | (simp; omega) | omega); have k6_0_0 := lq 0; have q6_0_0 := mq 0; have k6_0_1 := lq 1; have q6_0_1 := mq 1; clear lq mq; have lq := fun o => c6 (w.heap.size + 1) o (by first | (simp; done) | (simp; omega) | omega); have mq := fun o => f6 (w.heap.size + 1) o (by first | (simp; done) | (simp; omega) | omega); have k6_1_0 := lq 0; have q6_1_0 := mq 0; have k6_1_1 := lq 1; have q6_1_1 := mq 1; clear lq mq; have lq := fun o => c6 (w.heap.size + 2) o (by first | (simp; done) | (simp; omega) | omega); have mq := fun o => f6 (w.heap.size + 2) o (by first | (simp; done) | (simp; omega) | omega); have k6_2_0 := lq 0; have q6_2_0 := mq 0; have k6_2_1 := lq 1; have q6_2_1 := mq 1; clear lq mq; have lq := fun o => c6 (w.heap.size + 3) o (by first | (simp; done) | (simp; omega) | omega); have mq := fun o => f6 (w.heap.size + 3) o (by first | (simp; done) | (simp; omega) | omega); have k6_3_0 := lq 0; have q6_3_0 := mq 0; have k6_3_1 := lq 1; have q6_3_1 := mq 1; clear lq mq; have lq := fun o => c6 (v2.heap.size) o (by first | (simp; done) | (simp; omega) | omega); have mq := fun o => f6 (v2.heap.size) o (by first | (simp; done) | (simp; omega) | omega); have k6_v2_heap_size_0 := lq 0; have q6_v2_heap_size_0 := mq 0; have k6_v2_heap_size_1 := lq 1; have q6_v2_heap_size_1 := mq 1; clear lq mq; have z6_0 : w.heap.size < v6.heap.size := (by (try simp at z6); omega); have z6_1 : w.heap.size + 1 < v6.heap.size := (by (try simp at z6); omega); have z6_2 : w.heap.size + 2 < v6.heap.size := (by (try simp at z6); omega); have z6_3 : w.heap.size + 3 < v6.heap.size := (by (try simp at z6); omega); have z6_v2_heap_size : v2.heap.size < v6.heap.size := (by (try simp at z6); omega); (try simp at z6); clear c6 f6; simp [go_sem, *] at k6_0_0 q6_0_0 k6_0_1 q6_0_1 k6_1_0 q6_1_0 k6_1_1 q6_1_1 k6_2_0 q6_2_0 k6_2_1 q6_2_1 k6_3_0 q6_3_0 k6_3_1 q6_3_1 k6_v2_heap_size_0 q6_v2_heap_size_0 k6_v2_heap_size_1 q6_v2_heap_size_1); obtain ⟨h6, n6⟩ := h6; obtain ⟨a6, k6, c6, rfl, hf6⟩ := h6.form; have H6 := Lib.hid hf6; have N6 := Lib.hid (n6 _ _ rfl); clear h6 n6 hf6 HU H5))
    all_goals
      go_wp2
      simp [bodyPost, results, Tryz.results241, go_sem, *]
      have H7 := Lib.hid (show NatAt v6 (.slice a6 k6 c6) (mag (x % y)) L from NatAt.small (by rw [← E2.out]; exact H6.out) (by rw [mag_of Y0.out]; exact YS.out))
      have P2 := Lib.hid (N6.out.off (g := w.heap.size + 1 + 1) (by first | (simp; done) | (simp; omega) | omega))
      have P3 := Lib.hid (N6.out.off (g := w.heap.size + 1 + 1 + 1) (by first | (simp; done) | (simp; omega) | omega))
      exact ⟨_, _, ⟨rfl, rfl⟩, IntAt.of rfl (NatAt.mono (L := L + 1 + 1) (by repeat (first | with_reducible exact HR.out | with_reducible refine NatAt.alloc' ?_ | with_reducible refine NatAt.drew' ?_ | with_reducible refine NatAt.drewN' ?_ | with_reducible refine NatAt.off ?_ OQ1.out | with_reducible refine NatAt.off ?_ OQ2.out | with_reducible refine NatAt.off ?_ OQ3.out | with_reducible refine NatAt.ext ?_ x1 | with_reducible refine NatAt.ext ?_ x2 | with_reducible refine NatAt.ext ?_ x3 | with_reducible refine NatAt.ext ?_ x4 | with_reducible refine NatAt.ext ?_ x5 | with_reducible refine NatAt.ext ?_ x6 | with_reducible refine NatAt.ext ?_ hx)) (by omega)), IntAt.of (by rw [E2.out]) (by repeat (first | with_reducible exact H7.out | with_reducible refine NatAt.alloc' ?_ | with_reducible refine NatAt.drew' ?_ | with_reducible refine NatAt.drewN' ?_ | with_reducible refine NatAt.off ?_ P2.out | with_reducible refine NatAt.off ?_ P3.out | with_reducible refine NatAt.ext ?_ x1 | with_reducible refine NatAt.ext ?_ x2 | with_reducible refine NatAt.ext ?_ x3 | with_reducible refine NatAt.ext ?_ x4 | with_reducible refine NatAt.ext ?_ x5 | with_reducible refine NatAt.ext ?_ x6 | with_reducible refine NatAt.ext ?_ hx)), NewInt.mk (N4.out.old (by first | (simp; done) | (simp; omega) | omega)), NewInt.mk (N6.out.old (by first | (simp; done) | (simp; omega) | omega))⟩
theorem Divide_ref {u v : Value} {x y : Int} {L : Nat} {w : World} (hu : IntAt w u x L) (hv : IntAt w v y L) (y0 : 0 < y) (hL : L ≤ 50000) :
    Calls Tryz.prog 241 #[u, v] w fun e w' => ∃ q r, e = .returned (.tuple #[q, r]) ∧ Ext w w' ∧ IntAt w' q (x / y) (L + 2) ∧ IntAt w' r (x % y) L ∧ NewInt w q ∧ NewInt w r := by
  by_cases hx : x < 0
  · by_cases hr : mag x % y = 0
    · exact Divide_neg0 hu hv y0 hL hx hr
    · exact Divide_neg1 hu hv y0 hL hx (by have := Int.emod_nonneg (mag x) (show y ≠ 0 by omega); omega)
  · exact Divide_pos hu hv y0 hL hx
end Go.Proofs.YtkegefnpmijfiaaGreat
namespace Go.Proofs.YtkegefnpmijfiaaGreat
open Go.RowKit
def sb (x : Int) : Bool := decide (-9223372036854775808 ≤ x ∧ x < 9223372036854775808)
def sv (x : Int) : Int := if sb x then x else 0
theorem sb_of {x : Int} (h : -9223372036854775808 ≤ x ∧ x < 9223372036854775808) : sb x = true ∧ sv x = x := by
  have e : sb x = true := by simp [sb]; omega
  exact ⟨e, by simp [sv, e]⟩
theorem sb_no {x : Int} (h : x < -9223372036854775808 ∨ 9223372036854775808 ≤ x) : sb x = false ∧ sv x = 0 := by
  have e : sb x = false := by simp [sb]; omega
  exact ⟨e, by simp [sv, e]⟩
theorem Small_ref {v : Value} {x : Int} {L : Nat} {w : World} (h : IntAt w v x L) :
    Calls Tryz.prog 158 #[v] w fun e w' => e = .returned (.tuple #[.int .i64 (sv x), .bool (sb x)]) ∧ Ext w w' := by
  obtain ⟨m, rfl, hm⟩ := h.is
  obtain ⟨xs, ⟨ax, capx, rfl, hx2⟩, dX, nX, e, lX⟩ := hm.is
  have rx' : Row .u64 w (.slice ax xs.length capx) xs := ⟨ax, capx, rfl, hx2⟩
  have RX := Lib.hid rx'
  clear h hm rx' hx2 lX
  by_cases h0 : xs = []
  · subst h0
    have hx : x = 0 := by simp [val] at e; unfold mag at e; split at e <;> omega
    subst hx
    rw [(sb_of (x := 0) (by omega)).1, (sb_of (x := 0) (by omega)).2]
    clear e dX nX
    go_enter Tryz.func158, Tryz.ntmps158
    go_wp2
    go_ret2
    exact ⟨rfl, Ext.q⟩
  · have hpos : 0 < xs.length := List.length_pos_iff.2 h0
    obtain ⟨bx, ox, rfl, cx⟩ := RX.out.cellAt 0 hpos
    rw [Nat.add_zero] at cx
    have hbx : bx < w.heap.size := cell_lt cx
    have vt := val_top (by decide) dX nX h0
    have vb := (val_bd (by decide) xs dX).2
    rw [e] at vt vb
    obtain ⟨d0, d1⟩ := dX.at 0 hpos
    unfold B64 at d1
    have nz : ¬ (xs.length : Int) = 0 := by omega
    by_cases h1 : xs.length = 1
    · have ed : xs.getD 0 0 = mag x := by
        obtain ⟨d, rfl⟩ := List.length_eq_one_iff.1 h1
        rw [← e]; simp [val]
      rw [ed] at cx d0 d1
      rw [h1] at nz ⊢
      clear e dX nX RX vt vb h0 ed hpos
      rcases Int.lt_or_le x 0 with hx | hx
      · have eb : decide (x < 0) = true := by simp [hx]
        have em : mag x = -x := by rw [mag, if_pos hx]
        rw [em] at cx d0 d1
        rw [eb]
        by_cases hs : -x ≤ 9223372036854775808
        · rw [(sb_of (x := x) (by omega)).1, (sb_of (x := x) (by omega)).2]
          have hs' : ¬ 9223372036854775808 < -x := by omega
          have e1 : wrap64 (IntKind.u64.wrap x) = x := by rw [IntKind.wrap_u64]; unfold wrap64; omega
          clear eb em h1 hs
          go_enter Tryz.func158, Tryz.ntmps158
          go_wp2
          go_ret2
          simp [*]
          exact Ext.q
        · rw [(sb_no (x := x) (by omega)).1, (sb_no (x := x) (by omega)).2]
          have hs' : 9223372036854775808 < -x := by omega
          clear eb em h1 hs
          go_enter Tryz.func158, Tryz.ntmps158
          go_wp2
          go_ret2
          exact ⟨rfl, Ext.q⟩
      · have eb : decide (x < 0) = false := by simp; omega
        have em : mag x = x := by rw [mag, if_neg (by omega)]
        rw [em] at cx d0 d1
        rw [eb]
        by_cases hs : x < 9223372036854775808
        · rw [(sb_of (x := x) (by omega)).1, (sb_of (x := x) (by omega)).2]
          have hs' : ¬ 9223372036854775808 ≤ x := by omega
          have e1 : wrap64 x = x := by unfold wrap64; omega
          clear eb em h1 hs
          go_enter Tryz.func158, Tryz.ntmps158
          go_wp2
          go_ret2
          simp [*]
          exact Ext.q
        · rw [(sb_no (x := x) (by omega)).1, (sb_no (x := x) (by omega)).2]
          have hs' : 9223372036854775808 ≤ x := by omega
          clear eb em h1 hs
          go_enter Tryz.func158, Tryz.ntmps158
          go_wp2
          go_ret2
          exact ⟨rfl, Ext.q⟩
    · have big : B64 ^ 1 ≤ mag x := Int.le_trans (pow_mono' (show (1 : Int) ≤ B64 by decide) (show 1 ≤ xs.length - 1 by omega)) vt
      have b1 : B64 ^ 1 = 18446744073709551616 := by decide
      rw [b1] at big
      have sn := sb_no (x := x) (by unfold mag at big; split at big <;> omega)
      rw [sn.1, sn.2]
      have gt : (1 : Int) < (xs.length : Int) := by omega
      clear e dX nX RX vt vb h0 sn big b1 h1
      generalize xs.getD 0 0 = d at *
      go_enter Tryz.func158, Tryz.ntmps158
      go_wp2
      go_ret2
      exact ⟨rfl, Ext.q⟩
end Go.Proofs.YtkegefnpmijfiaaGreat
namespace Go.Proofs.YtkegefnpmijfiaaGreat
open Go.RowKit
theorem pow_p2 {n : Int} : (2 : Int) ^ (64 * (n.toNat / 64) + n.toNat % 64) = p2 n := by
  have e : 64 * (n.toNat / 64) + n.toNat % 64 = n.toNat := by omega
  rw [e]; rfl
theorem Down2_p2 {m : Value} {x n : Int} {L : Nat} {w : World} (hX : NatAt w m x L) (hL : L ≤ 1000000) (n0 : 0 ≤ n) :
    Calls Tryz.prog 185 #[m, .int .i64 n] w fun e w' => ∃ v, e = .returned v ∧ Ext w w' ∧ NatAt w' v (x / p2 n) L ∧ New w v := by
  have u := Down2_new hX hL (q := n.toNat / 64) (s := n.toNat % 64) (by omega) (n := n) (by omega)
  rw [pow_p2] at u
  exact u
theorem Up2_p2 {m : Value} {x n : Int} {L L' : Nat} {w : World} (hX : NatAt w m x L) (hL : L ≤ 1000000) (n0 : 0 ≤ n) (n1 : n ≤ 1000) (hl : L + n.toNat / 64 + 1 ≤ L') :
    Calls Tryz.prog 154 #[m, .int .i64 n] w fun e w' => ∃ v, e = .returned v ∧ Ext w w' ∧ NatAt w' v (x * p2 n) L' := by
  have u := Up2_any hX hL (q := n.toNat / 64) (s := n.toNat % 64) (by omega) (by omega) (n := n) (by omega)
  rw [pow_p2] at u
  exact u.mono (by rintro e w' ⟨v, h1, h2, h3⟩; exact ⟨v, h1, h2, h3.mono hl⟩)
theorem Left_p2r {u : Value} {x n : Int} {L L' : Nat} {w : World} (hu : IntAt w u x L) (hL : L ≤ 400000) (n0 : 0 ≤ n) (n1 : n ≤ 1000) (hl : L + n.toNat / 64 + 1 ≤ L') :
    Calls Tryz.prog 74 #[u, .int .i64 n] w fun e w' => ∃ v, e = .returned v ∧ Ext w w' ∧ IntAt w' v (x * p2 n) L' ∧ NewInt w v := by
  have u := Left_ref hu hL (q := n.toNat / 64) (s := n.toNat % 64) (by omega) (by omega) (n := n) (by omega)
  rw [pow_p2] at u
  exact u.mono (by rintro e w' ⟨v, h1, h2, h3, h4⟩; exact ⟨v, h1, h2, h3.mono hl, h4⟩)
theorem cmp_z {x y : Int} (h : x = y) : (cmpI x y != 0) = false := by subst h; simp [cmpI]
theorem cmp_nz {x y : Int} (h : x ≠ y) : (cmpI x y != 0) = true := by
  unfold cmpI
  rcases Int.lt_trichotomy x y with h' | h' | h'
  · simp [h']
  · exact absurd h' h
  · rw [if_neg (by omega), if_pos h']; rfl
set_option maxHeartbeats 1000000 in
theorem Right_pos {u : Value} {x n : Int} {L : Nat} {w : World} (hu : IntAt w u x L) (hL : L ≤ 400000) (n0 : 0 ≤ n) (hx : ¬ x < 0) :
    Calls Tryz.prog 109 #[u, .int .i64 n] w fun e w' => ∃ v, e = .returned v ∧ Ext w w' ∧ IntAt w' v (x / p2 n) (L + 2) ∧ NewInt w v := by
  obtain ⟨a1, k1, c1, rfl, m1⟩ := hu.form
  have M1 := Lib.hid m1
  have sx : decide (x < 0) = false := by simp; omega
  have em : mag x = x := mag_of (by omega)
  have qn : 0 ≤ x / p2 n := Int.ediv_nonneg (by omega) (Int.le_of_lt (p2_pos n))
  have D := Lib.hid (fun (u : World) h => Down2_p2 (n := n) (L := L) (x := mag x) (m := .slice a1 k1 c1) (w := u) h (by omega) n0)
  rw [em] at D
  have QS := Lib.hid (show (false && decide (0 < x / p2 n)) = decide (x / p2 n < 0) by simp; omega)
  have QM := Lib.hid (mag_of qn)
  rw [em] at m1 M1
  rw [sx]
  clear m1 hu sx em qn hx
  go_enter Tryz.func109, Tryz.ntmps109
  go_wp2_with fail; refine (D.out _ (M1.out.ext Ext.q)).mono ?_; rintro e v1 ⟨q1, rfl, x1, h1⟩; obtain ⟨c1, f1⟩ := x1.rules; have z1 := x1.size; have lq := fun o => c1 (w.heap.size) o (by first | (simp; done) | (simp; omega) | omega); have mq := fun o => f1 (w.heap.size) o (by first | (simp; done) | (simp; omega) | omega); have k1_0_0 := lq 0; have q1_0_0 := mq 0; have k1_0_1 := lq 1; have q1_0_1 := mq 1; clear lq mq; have lq := fun o => c1 (w.heap.size + 1) o (by first | (simp; done) | (simp; omega) | omega); have mq := fun o => f1 (w.heap.size + 1) o (by first | (simp; done) | (simp; omega) | omega); have k1_1_0 := lq 0; have q1_1_0 := mq 0; have k1_1_1 := lq 1; have q1_1_1 := mq 1; clear lq mq; have z1_0 : w.heap.size < v1.heap.size := (by (try simp at z1); omega); have z1_1 : w.heap.size + 1 < v1.heap.size := (by (try simp at z1); omega); (try simp at z1); clear c1 f1; simp [go_sem, *] at k1_0_0 q1_0_0 k1_0_1 q1_0_1 k1_1_0 q1_1_0 k1_1_1 q1_1_1
  obtain ⟨h1, n1⟩ := h1
  have H1 := Lib.hid h1
  have N1 := Lib.hid n1
  obtain ⟨a3, k3, c3, rfl, -⟩ := h1.form
  clear h1 n1
  go_wp2_with fail
  go_quiet (fail)
  all_goals
   go_wp2_with fail; refine (Made_raw false H1.out _).mono ?_; rintro e v2 ⟨rfl, x2⟩; obtain ⟨c2, f2⟩ := x2.rules; have z2 := x2.size; have lq := fun o => c2 (w.heap.size) o (by first | (simp; done) | (simp; omega) | omega); have mq := fun o => f2 (w.heap.size) o (by first | (simp; done) | (simp; omega) | omega); have k2_0_0 := lq 0; have q2_0_0 := mq 0; have k2_0_1 := lq 1; have q2_0_1 := mq 1; clear lq mq; have lq := fun o => c2 (w.heap.size + 1) o (by first | (simp; done) | (simp; omega) | omega); have mq := fun o => f2 (w.heap.size + 1) o (by first | (simp; done) | (simp; omega) | omega); have k2_1_0 := lq 0; have q2_1_0 := mq 0; have k2_1_1 := lq 1; have q2_1_1 := mq 1; clear lq mq; have z2_0 : w.heap.size < v2.heap.size := (by (try simp at z2); omega); have z2_1 : w.heap.size + 1 < v2.heap.size := (by (try simp at z2); omega); (try simp at z2); clear c2 f2; simp [go_sem, *] at k2_0_0 q2_0_0 k2_0_1 q2_0_1 k2_1_0 q2_1_0 k2_1_1 q2_1_1; (try clear k1_0_0); (try clear q1_0_0); (try clear k1_0_1); (try clear q1_0_1); (try clear k1_1_0); (try clear q1_1_0); (try clear k1_1_1); (try clear q1_1_1)
   go_wp2
   simp [bodyPost, results, Tryz.results109, go_sem, *]
   have O1 := Lib.hid (N1.out.off (g := w.heap.size + 1) (by simp))
   have HQ := Lib.hid (show NatAt v1 (.slice a3 k3 c3) (mag (x / p2 n)) L by rw [QM.out]; exact H1.out)
   have q := QS.out
   rw [Bool.false_and] at q
   exact ⟨Ext.q, IntAt.of q (NatAt.mono (L := L) (by repeat (first | with_reducible exact HQ.out | with_reducible refine NatAt.alloc' ?_ | with_reducible refine NatAt.drew' ?_ | with_reducible refine NatAt.drewN' ?_ | with_reducible refine NatAt.off ?_ O1.out | with_reducible refine NatAt.ext ?_ x1 | with_reducible refine NatAt.ext ?_ x2 | with_reducible refine NatAt.ext ?_ x3 | with_reducible refine NatAt.ext ?_ x4 | with_reducible refine NatAt.ext ?_ x5 | with_reducible refine NatAt.ext ?_ x6 | with_reducible refine NatAt.ext ?_ hx)) (by omega)), NewInt.mk (N1.out.old (by simp; omega))⟩
set_option maxHeartbeats 2000000 in
theorem Right_neg {u : Value} {x n : Int} {L : Nat} {w : World} (hu : IntAt w u x L) (hL : L ≤ 10000) (n0 : 0 ≤ n) (n1 : n ≤ 1000) (hx : x < 0) :
    Calls Tryz.prog 109 #[u, .int .i64 n] w fun e w' => ∃ v, e = .returned v ∧ Ext w w' ∧ IntAt w' v (x / p2 n) (L + 2) ∧ NewInt w v := by
  obtain ⟨a1, k1, c1, rfl, m1⟩ := hu.form
  have M1 := Lib.hid m1
  have sx : decide (x < 0) = true := by simp [hx]
  have mn := mag_nn x
  have pp := p2_pos n
  have qn : 0 ≤ mag x / p2 n := Int.ediv_nonneg mn (Int.le_of_lt pp)
  have D := Lib.hid (fun (u : World) h => Down2_p2 (n := n) (L := L) (x := mag x) (m := .slice a1 k1 c1) (w := u) h (by omega) n0)
  have U := Lib.hid (fun (u : World) (m : Value) h => Up2_p2 (n := n) (L := L) (L' := L + 17) (x := mag x / p2 n) (m := m) (w := u) h (by omega) n0 n1 (by omega))
  rw [sx]
  have ed := Int.ediv_mul_add_emod (mag x) (p2 n)
  have er := Int.emod_nonneg (mag x) (show p2 n ≠ 0 by omega)
  by_cases hr : mag x % p2 n = 0
  · have E := (div_neg0 pp hx hr).1
    rw [E]
    have nc := fun (u : World) m => NCmp_any (w := u) (m1 := m) (m2 := .slice a1 k1 c1) (x := mag x / p2 n * p2 n) (y := mag x) (L := L + 17)
    have e0 : mag x / p2 n * p2 n = mag x := by omega
    rw [e0] at nc U
    have z : cmpI (mag x) (mag x) = 0 := by simp [cmpI]
    rw [z] at nc
    have NC := Lib.hid nc
    have QS := Lib.hid (show (true && decide (0 < mag x / p2 n)) = decide (-(mag x / p2 n) < 0) by simp)
    have QM := Lib.hid (mag_ng qn)
    clear nc e0 z E ed er hr pp qn mn sx hx hu m1
    go_enter Tryz.func109, Tryz.ntmps109
    go_wp2_with fail; refine (D.out _ (M1.out.ext Ext.q)).mono ?_; rintro e v1 ⟨q1, rfl, x1, h1⟩; obtain ⟨c1, f1⟩ := x1.rules; have z1 := x1.size; have lq := fun o => c1 (w.heap.size) o (by first | (simp; done) | (simp; omega) | omega); have mq := fun o => f1 (w.heap.size) o (by first | (simp; done) | (simp; omega) | omega); have k1_0_0 := lq 0; have q1_0_0 := mq 0; have k1_0_1 := lq 1; have q1_0_1 := mq 1; clear lq mq; have lq := fun o => c1 (w.heap.size + 1) o (by first | (simp; done) | (simp; omega) | omega); have mq := fun o => f1 (w.heap.size + 1) o (by first | (simp; done) | (simp; omega) | omega); have k1_1_0 := lq 0; have q1_1_0 := mq 0; have k1_1_1 := lq 1; have q1_1_1 := mq 1; clear lq mq; have z1_0 : w.heap.size < v1.heap.size := (by (try simp at z1); omega); have z1_1 : w.heap.size + 1 < v1.heap.size := (by (try simp at z1); omega); (try simp at z1); clear c1 f1; simp [go_sem, *] at k1_0_0 q1_0_0 k1_0_1 q1_0_1 k1_1_0 q1_1_0 k1_1_1 q1_1_1
    obtain ⟨h1, n1⟩ := h1
    have H1 := Lib.hid h1
    have N1 := Lib.hid n1
    obtain ⟨a3, k3, c3, rfl, -⟩ := h1.form
    clear h1 n1
    go_wp2_with fail
    go_region_held3 (fun w' => w'.cell? ⟨w.heap.size, 0, none⟩ = some (.bool true) ∧ w'.cell? ⟨w.heap.size, 1, none⟩ = some (.slice a1 k1 c1) ∧ w.heap.size + 1 < w'.heap.size ∧ Ext w w')
      (refine ⟨?_, ?_, ?_, ?_⟩ <;> first | (simp [go_sem, *]; done) | omega | (simp at z1; omega) | (simp at z2; omega) | (simp at z3; omega) | (simp at z4; omega) | exact Ext.q)
      (first
        | ((go_at_call 154; refine (U.out _ _ (H1.out.ext Ext.q)).mono ?_; rintro e v2 ⟨q2, rfl, x2, h2⟩; obtain ⟨c2, f2⟩ := x2.rules; have z2 := x2.size; have lq := fun o => c2 (w.heap.size) o (by first | (simp; done) | (simp; omega) | omega); have mq := fun o => f2 (w.heap.size) o (by first | (simp; done) | (simp; omega) | omega); have k2_0_0 := lq 0; have q2_0_0 := mq 0; have k2_0_1 := lq 1; have q2_0_1 := mq 1; clear lq mq; have lq := fun o => c2 (w.heap.size + 1) o (by first | (simp; done) | (simp; omega) | omega); have mq := fun o => f2 (w.heap.size + 1) o (by first | (simp; done) | (simp; omega) | omega); have k2_1_0 := lq 0; have q2_1_0 := mq 0; have k2_1_1 := lq 1; have q2_1_1 := mq 1; clear lq mq; have z2_0 : w.heap.size < v2.heap.size := (by (try simp at z2); omega); have z2_1 : w.heap.size + 1 < v2.heap.size := (by (try simp at z2); omega); (try simp at z2); clear c2 f2; simp [go_sem, *] at k2_0_0 q2_0_0 k2_0_1 q2_0_1 k2_1_0 q2_1_0 k2_1_1 q2_1_1); have H2 := Lib.hid h2; clear h2 U)
        | (go_at_call 151; refine (NC.out _ _ (H2.out.ext Ext.q) (NatAt.mono (M1.out.ext Ext.q) (by omega)) (by omega)).mono ?_; rintro e v3 ⟨rfl, x3⟩; obtain ⟨c3, f3⟩ := x3.rules; have z3 := x3.size; have lq := fun o => c3 (w.heap.size) o (by first | (simp; done) | (simp; omega) | omega); have mq := fun o => f3 (w.heap.size) o (by first | (simp; done) | (simp; omega) | omega); have k3_0_0 := lq 0; have q3_0_0 := mq 0; have k3_0_1 := lq 1; have q3_0_1 := mq 1; clear lq mq; have lq := fun o => c3 (w.heap.size + 1) o (by first | (simp; done) | (simp; omega) | omega); have mq := fun o => f3 (w.heap.size + 1) o (by first | (simp; done) | (simp; omega) | omega); have k3_1_0 := lq 0; have q3_1_0 := mq 0; have k3_1_1 := lq 1; have q3_1_1 := mq 1; clear lq mq; have z3_0 : w.heap.size < v3.heap.size := (by (try simp at z3); omega); have z3_1 : w.heap.size + 1 < v3.heap.size := (by (try simp at z3); omega); (try simp at z3); clear c3 f3; simp [go_sem, *] at k3_0_0 q3_0_0 k3_0_1 q3_0_1 k3_1_0 q3_1_0 k3_1_1 q3_1_1))
    all_goals
      clear NC H2
      go_wp2_with fail; refine (Made_raw true H1.out _).mono ?_; rintro e v4 ⟨rfl, x4⟩; obtain ⟨c4, f4⟩ := x4.rules; have z4 := x4.size; have lq := fun o => c4 (w.heap.size) o (by first | (simp; done) | (simp; omega) | omega); have mq := fun o => f4 (w.heap.size) o (by first | (simp; done) | (simp; omega) | omega); have k4_0_0 := lq 0; have q4_0_0 := mq 0; have k4_0_1 := lq 1; have q4_0_1 := mq 1; clear lq mq; have lq := fun o => c4 (w.heap.size + 1) o (by first | (simp; done) | (simp; omega) | omega); have mq := fun o => f4 (w.heap.size + 1) o (by first | (simp; done) | (simp; omega) | omega); have k4_1_0 := lq 0; have q4_1_0 := mq 0; have k4_1_1 := lq 1; have q4_1_1 := mq 1; clear lq mq; have z4_0 : w.heap.size < v4.heap.size := (by (try simp at z4); omega); have z4_1 : w.heap.size + 1 < v4.heap.size := (by (try simp at z4); omega); (try simp at z4); clear c4 f4; simp [go_sem, *] at k4_0_0 q4_0_0 k4_0_1 q4_0_1 k4_1_0 q4_1_0 k4_1_1 q4_1_1; (try clear k1_0_0); (try clear q1_0_0); (try clear k1_0_1); (try clear q1_0_1); (try clear k1_1_0); (try clear q1_1_0); (try clear k1_1_1); (try clear q1_1_1)
      go_wp2
      simp [bodyPost, results, Tryz.results109, go_sem, *]
      have O1 := Lib.hid (N1.out.off (g := w.heap.size + 1) (by simp))
      have HQ := Lib.hid (show NatAt v1 (.slice a3 k3 c3) (mag (-(mag x / p2 n))) L by rw [QM.out]; exact H1.out)
      have q := QS.out
      rw [Bool.true_and] at q
      exact ⟨Ext.q, IntAt.of q (NatAt.mono (L := L) (by repeat (first | with_reducible exact HQ.out | with_reducible refine NatAt.alloc' ?_ | with_reducible refine NatAt.drew' ?_ | with_reducible refine NatAt.drewN' ?_ | with_reducible refine NatAt.off ?_ O1.out | with_reducible refine NatAt.ext ?_ x1 | with_reducible refine NatAt.ext ?_ x2 | with_reducible refine NatAt.ext ?_ x3 | with_reducible refine NatAt.ext ?_ x4 | with_reducible refine NatAt.ext ?_ x5 | with_reducible refine NatAt.ext ?_ x6 | with_reducible refine NatAt.ext ?_ hx)) (by omega)), NewInt.mk (N1.out.old (by simp; omega))⟩
  · have E := (div_neg1 pp hx (show 0 < mag x % p2 n by omega)).1
    have e9 : -(mag x / p2 n) - 1 = -(mag x / p2 n + 1) := by omega
    rw [E, e9]
    have nc := fun (u : World) m => NCmp_any (w := u) (m1 := m) (m2 := .slice a1 k1 c1) (x := mag x / p2 n * p2 n) (y := mag x) (L := L + 17)
    have z : cmpI (mag x / p2 n * p2 n) (mag x) = -1 := cmpI_lt (by omega)
    rw [z] at nc
    have NC := Lib.hid nc
    have QS := Lib.hid (show (true && decide (0 < mag x / p2 n + 1)) = decide (-(mag x / p2 n + 1) < 0) by simp)
    have QM := Lib.hid (mag_ng (show 0 ≤ mag x / p2 n + 1 by omega))
    clear nc z E e9 ed er hr pp qn mn sx hx hu m1
    go_enter Tryz.func109, Tryz.ntmps109
    go_wp2_with fail; refine (D.out _ (M1.out.ext Ext.q)).mono ?_; rintro e v1 ⟨q1, rfl, x1, h1⟩; obtain ⟨c1, f1⟩ := x1.rules; have z1 := x1.size; have lq := fun o => c1 (w.heap.size) o (by first | (simp; done) | (simp; omega) | omega); have mq := fun o => f1 (w.heap.size) o (by first | (simp; done) | (simp; omega) | omega); have k1_0_0 := lq 0; have q1_0_0 := mq 0; have k1_0_1 := lq 1; have q1_0_1 := mq 1; clear lq mq; have lq := fun o => c1 (w.heap.size + 1) o (by first | (simp; done) | (simp; omega) | omega); have mq := fun o => f1 (w.heap.size + 1) o (by first | (simp; done) | (simp; omega) | omega); have k1_1_0 := lq 0; have q1_1_0 := mq 0; have k1_1_1 := lq 1; have q1_1_1 := mq 1; clear lq mq; have z1_0 : w.heap.size < v1.heap.size := (by (try simp at z1); omega); have z1_1 : w.heap.size + 1 < v1.heap.size := (by (try simp at z1); omega); (try simp at z1); clear c1 f1; simp [go_sem, *] at k1_0_0 q1_0_0 k1_0_1 q1_0_1 k1_1_0 q1_1_0 k1_1_1 q1_1_1
    obtain ⟨h1, n1⟩ := h1
    have H1 := Lib.hid h1
    obtain ⟨a3, k3, c3, rfl, -⟩ := h1.form
    clear h1 n1
    go_wp2_with fail
    go_region_held3 (fun w' => w'.cell? ⟨w.heap.size, 0, none⟩ = some (.bool true) ∧ w'.cell? ⟨w.heap.size, 1, none⟩ = some (.slice a1 k1 c1) ∧ w.heap.size + 1 < w'.heap.size ∧ Ext w w')
      (refine ⟨?_, ?_, ?_, ?_⟩ <;> first | (simp [go_sem, *]; done) | omega | (simp at z1; omega) | (simp at z2; omega) | (simp at z3; omega) | (simp at z4; omega) | exact Ext.q)
      (first
        | ((go_at_call 154; refine (U.out _ _ (H1.out.ext Ext.q)).mono ?_; rintro e v2 ⟨q2, rfl, x2, h2⟩; obtain ⟨c2, f2⟩ := x2.rules; have z2 := x2.size; have lq := fun o => c2 (w.heap.size) o (by first | (simp; done) | (simp; omega) | omega); have mq := fun o => f2 (w.heap.size) o (by first | (simp; done) | (simp; omega) | omega); have k2_0_0 := lq 0; have q2_0_0 := mq 0; have k2_0_1 := lq 1; have q2_0_1 := mq 1; clear lq mq; have lq := fun o => c2 (w.heap.size + 1) o (by first | (simp; done) | (simp; omega) | omega); have mq := fun o => f2 (w.heap.size + 1) o (by first | (simp; done) | (simp; omega) | omega); have k2_1_0 := lq 0; have q2_1_0 := mq 0; have k2_1_1 := lq 1; have q2_1_1 := mq 1; clear lq mq; have z2_0 : w.heap.size < v2.heap.size := (by (try simp at z2); omega); have z2_1 : w.heap.size + 1 < v2.heap.size := (by (try simp at z2); omega); (try simp at z2); clear c2 f2; simp [go_sem, *] at k2_0_0 q2_0_0 k2_0_1 q2_0_1 k2_1_0 q2_1_0 k2_1_1 q2_1_1); have H2 := Lib.hid h2; clear h2 U)
        | (go_at_call 151; refine (NC.out _ _ (H2.out.ext Ext.q) (NatAt.mono (M1.out.ext Ext.q) (by omega)) (by omega)).mono ?_; rintro e v3 ⟨rfl, x3⟩; obtain ⟨c3, f3⟩ := x3.rules; have z3 := x3.size; have lq := fun o => c3 (w.heap.size) o (by first | (simp; done) | (simp; omega) | omega); have mq := fun o => f3 (w.heap.size) o (by first | (simp; done) | (simp; omega) | omega); have k3_0_0 := lq 0; have q3_0_0 := mq 0; have k3_0_1 := lq 1; have q3_0_1 := mq 1; clear lq mq; have lq := fun o => c3 (w.heap.size + 1) o (by first | (simp; done) | (simp; omega) | omega); have mq := fun o => f3 (w.heap.size + 1) o (by first | (simp; done) | (simp; omega) | omega); have k3_1_0 := lq 0; have q3_1_0 := mq 0; have k3_1_1 := lq 1; have q3_1_1 := mq 1; clear lq mq; have z3_0 : w.heap.size < v3.heap.size := (by (try simp at z3); omega); have z3_1 : w.heap.size + 1 < v3.heap.size := (by (try simp at z3); omega); (try simp at z3); clear c3 f3; simp [go_sem, *] at k3_0_0 q3_0_0 k3_0_1 q3_0_1 k3_1_0 q3_1_0 k3_1_1 q3_1_1))
    all_goals
      clear NC H2
      go_wp2_with fail; refine (NOf_any 1 _ (by omega) (by omega)).mono ?_; rintro e v4 ⟨q4, rfl, x4, h4⟩; obtain ⟨c4, f4⟩ := x4.rules; have z4 := x4.size; have lq := fun o => c4 (w.heap.size) o (by first | (simp; done) | (simp; omega) | omega); have mq := fun o => f4 (w.heap.size) o (by first | (simp; done) | (simp; omega) | omega); have k4_0_0 := lq 0; have q4_0_0 := mq 0; have k4_0_1 := lq 1; have q4_0_1 := mq 1; clear lq mq; have lq := fun o => c4 (w.heap.size + 1) o (by first | (simp; done) | (simp; omega) | omega); have mq := fun o => f4 (w.heap.size + 1) o (by first | (simp; done) | (simp; omega) | omega); have k4_1_0 := lq 0; have q4_1_0 := mq 0; have k4_1_1 := lq 1; have q4_1_1 := mq 1; clear lq mq; have z4_0 : w.heap.size < v4.heap.size := (by (try simp at z4); omega); have z4_1 : w.heap.size + 1 < v4.heap.size := (by (try simp at z4); omega); (try simp at z4); clear c4 f4; simp [go_sem, *] at k4_0_0 q4_0_0 k4_0_1 q4_0_1 k4_1_0 q4_1_0 k4_1_1 q4_1_1; (try clear k1_0_0); (try clear q1_0_0); (try clear k1_0_1); (try clear q1_0_1); (try clear k1_1_0); (try clear q1_1_0); (try clear k1_1_1); (try clear q1_1_1)
      have H4 := Lib.hid (h4.mono (show 1 ≤ L + 1 by omega))
      clear h4
      go_wp2_with fail; refine (NPlus_new (NatAt.mono (L := L) (H1.out.ext Ext.q) (by omega)) H4.out (show L + 1 ≤ 400000 by omega)).mono ?_; rintro e v5 ⟨q5, rfl, x5, h5⟩; obtain ⟨c5, f5⟩ := x5.rules; have z5 := x5.size; have lq := fun o => c5 (w.heap.size) o (by first | (simp; done) | (simp; omega) | omega); have mq := fun o => f5 (w.heap.size) o (by first | (simp; done) | (simp; omega) | omega); have k5_0_0 := lq 0; have q5_0_0 := mq 0; have k5_0_1 := lq 1; have q5_0_1 := mq 1; clear lq mq; have lq := fun o => c5 (w.heap.size + 1) o (by first | (simp; done) | (simp; omega) | omega); have mq := fun o => f5 (w.heap.size + 1) o (by first | (simp; done) | (simp; omega) | omega); have k5_1_0 := lq 0; have q5_1_0 := mq 0; have k5_1_1 := lq 1; have q5_1_1 := mq 1; clear lq mq; have z5_0 : w.heap.size < v5.heap.size := (by (try simp at z5); omega); have z5_1 : w.heap.size + 1 < v5.heap.size := (by (try simp at z5); omega); (try simp at z5); clear c5 f5; simp [go_sem, *] at k5_0_0 q5_0_0 k5_0_1 q5_0_1 k5_1_0 q5_1_0 k5_1_1 q5_1_1; (try clear k4_0_0); (try clear q4_0_0); (try clear k4_0_1); (try clear q4_0_1); (try clear k4_1_0); (try clear q4_1_0); (try clear k4_1_1); (try clear q4_1_1)
      obtain ⟨h5, n5⟩ := h5
      have H5 := Lib.hid h5
      have N5 := Lib.hid n5
      obtain ⟨a5, k5, c5, rfl, -⟩ := h5.form
      clear h5 n5
      go_wp2_with fail; refine (Made_raw true H5.out _).mono ?_; rintro e v6 ⟨rfl, x6⟩; obtain ⟨c6, f6⟩ := x6.rules; have z6 := x6.size; have lq := fun o => c6 (w.heap.size) o (by first | (simp; done) | (simp; omega) | omega); have mq := fun o => f6 (w.heap.size) o (by first | (simp; done) | (simp; omega) | omega); have k6_0_0 := lq 0; have q6_0_0 := mq 0; have k6_0_1 := lq 1; have q6_0_1 := mq 1; clear lq mq; have lq := fun o => c6 (w.heap.size + 1) o (by first | (simp; done) | (simp; omega) | omega); have mq := fun o => f6 (w.heap.size + 1) o (by first | (simp; done) | (simp; omega) | omega); have k6_1_0 := lq 0; have q6_1_0 := mq 0; have k6_1_1 := lq 1; have q6_1_1 := mq 1; clear lq mq; have z6_0 : w.heap.size < v6.heap.size := (by (try simp at z6); omega); have z6_1 : w.heap.size + 1 < v6.heap.size := (by (try simp at z6); omega); (try simp at z6); clear c6 f6; simp [go_sem, *] at k6_0_0 q6_0_0 k6_0_1 q6_0_1 k6_1_0 q6_1_0 k6_1_1 q6_1_1; (try clear k5_0_0); (try clear q5_0_0); (try clear k5_0_1); (try clear q5_0_1); (try clear k5_1_0); (try clear q5_1_0); (try clear k5_1_1); (try clear q5_1_1)
      go_wp2
      simp [bodyPost, results, Tryz.results109, go_sem, *]
      have Z : w.heap.size + 2 ≤ v4.heap.size := by omega
      have O1 := Lib.hid (N5.out.off (g := w.heap.size + 1) (by omega))
      have HQ := Lib.hid (show NatAt v5 (.slice a5 k5 c5) (mag (-(mag x / p2 n + 1))) (L + 2) by rw [QM.out]; exact H5.out)
      have q := QS.out
      rw [Bool.true_and] at q
      exact ⟨Ext.q, IntAt.of q (by repeat (first | with_reducible exact HQ.out | with_reducible refine NatAt.alloc' ?_ | with_reducible refine NatAt.drew' ?_ | with_reducible refine NatAt.drewN' ?_ | with_reducible refine NatAt.off ?_ O1.out | with_reducible refine NatAt.ext ?_ x1 | with_reducible refine NatAt.ext ?_ x2 | with_reducible refine NatAt.ext ?_ x3 | with_reducible refine NatAt.ext ?_ x4 | with_reducible refine NatAt.ext ?_ x5 | with_reducible refine NatAt.ext ?_ x6 | with_reducible refine NatAt.ext ?_ hx)), NewInt.mk (N5.out.old (by omega))⟩
theorem Right_ref {u : Value} {x n : Int} {L : Nat} {w : World} (hu : IntAt w u x L) (hL : L ≤ 10000) (n0 : 0 ≤ n) (n1 : n ≤ 1000) :
    Calls Tryz.prog 109 #[u, .int .i64 n] w fun e w' => ∃ v, e = .returned v ∧ Ext w w' ∧ IntAt w' v (x / p2 n) (L + 2) ∧ NewInt w v := by
  by_cases hx : x < 0
  · exact Right_neg hu hL n0 n1 hx
  · exact Right_pos hu (by omega) n0 hx
end Go.Proofs.YtkegefnpmijfiaaGreat
