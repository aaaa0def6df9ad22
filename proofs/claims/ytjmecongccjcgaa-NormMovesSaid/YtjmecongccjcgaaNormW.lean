/- whole.From of any int64, whole.Neg. -/
import Derived.Test.YtjmecongccjcgaaW3
namespace Go.Proofs.Ytjmecongccjcgaa
open Go.RowKit
attribute [local go_sem ↓] Go.wp_at_zero Go.wp_at_succ
theorem wFrom_any (x : Int) (w : World) (h0 : -9223372036854775808 ≤ x) (h1 : x ≤ 9223372036854775807) :
    Calls Try.prog 82 #[.int .i64 x] w fun e w' => ∃ v, e = .returned v ∧ Ext w w' ∧ IntAt w' v x 1 ∧ NewInt w v := by
  rcases Int.lt_or_le x 0 with hn | hn
  · have N := Lib.hid (fun u => wword_new (-x) u (by omega) (by omega))
    have w1 : IntKind.u64.wrap (-(IntKind.u64.wrap x)) = -x := by rw [IntKind.wrap_u64, IntKind.wrap_u64]; omega
    have SX := Lib.hid (show (true && decide (0 < -x)) = decide (x < 0) by simp)
    have MX := Lib.hid (show mag x = -x by unfold mag; simp; omega)
    go_enter Try.func82, Try.ntmps82
    go_wp2_with fail; refine (N.out _).mono ?_; rintro e v1 ⟨q1, rfl, x1, h1⟩; obtain ⟨c1, f1⟩ := x1.rules; have z1 := x1.size; have k1_0_0 := c1 (w.heap.size) 0 (by first | (simp; done) | (simp; omega) | omega); have q1_0_0 := f1 (w.heap.size) 0 (by first | (simp; done) | (simp; omega) | omega); have k1_0_1 := c1 (w.heap.size) 1 (by first | (simp; done) | (simp; omega) | omega); have q1_0_1 := f1 (w.heap.size) 1 (by first | (simp; done) | (simp; omega) | omega); have z1_0 : w.heap.size < v1.heap.size := (by (try simp at z1); omega); (try simp at z1); clear c1 f1; simp [go_sem, *] at k1_0_0 q1_0_0 k1_0_1 q1_0_1
    obtain ⟨h1, n1⟩ := h1
    obtain ⟨a, k, c, rfl, -⟩ := h1.form
    have H1 := Lib.hid h1
    have N1 := Lib.hid n1
    clear h1 n1
    go_wp2_with fail; refine (wOf_raw true H1.out _).mono ?_; rintro e v2 ⟨rfl, x2⟩; obtain ⟨c2, f2⟩ := x2.rules; have z2 := x2.size; have k2_0_0 := c2 (w.heap.size) 0 (by first | (simp; done) | (simp; omega) | omega); have q2_0_0 := f2 (w.heap.size) 0 (by first | (simp; done) | (simp; omega) | omega); have k2_0_1 := c2 (w.heap.size) 1 (by first | (simp; done) | (simp; omega) | omega); have q2_0_1 := f2 (w.heap.size) 1 (by first | (simp; done) | (simp; omega) | omega); have z2_0 : w.heap.size < v2.heap.size := (by (try simp at z2); omega); (try simp at z2); clear c2 f2; simp [go_sem, *] at k2_0_0 q2_0_0 k2_0_1 q2_0_1; (try clear k1_0_0); (try clear q1_0_0); (try clear k1_0_1); (try clear q1_0_1)
    have O1 := Lib.hid (N1.out.off (g := w.heap.size) (by simp))
    have HX := Lib.hid (show NatAt v1 (.slice a k c) (mag x) 1 by rw [MX.out]; exact H1.out)
    go_wp2
    simp [bodyPost, results, Try.results82, go_sem, *]
    have q := SX.out
    rw [Bool.true_and] at q
    exact ⟨(by repeat (first | with_reducible exact Ext.refl _ | with_reducible apply Ext.drew | with_reducible apply Ext.drewN | with_reducible apply Ext.alloc | ((with_reducible refine Ext.setCell ?_ ?_ _); rotate_left; focus (first | (simp; done) | (simp; omega) | omega)) | with_reducible refine Ext.tr ?_ x1 | with_reducible refine Ext.tr ?_ x2 | with_reducible assumption)), IntAt.of (by simp; omega) (by repeat (first | with_reducible exact HX.out | with_reducible refine NatAt.alloc' ?_ | with_reducible refine NatAt.drew' ?_ | with_reducible refine NatAt.drewN' ?_ | with_reducible refine NatAt.off ?_ O1.out | with_reducible refine NatAt.ext ?_ x1 | with_reducible refine NatAt.ext ?_ x2)), NewInt.mk (N1.out.old (by first | (simp; done) | (simp; omega) | omega))⟩
  · exact wFrom_new x w hn h1
set_option maxHeartbeats 1000000 in
theorem wNeg_ref {v : Value} {x : Int} {L : Nat} {w : World} (h : IntAt w v x L) (hL : L ≤ 1000000) :
    Calls Try.prog 87 #[v] w fun e w' => ∃ q, e = .returned q ∧ Ext w w' ∧ IntAt w' q (-x) L ∧ NewInt w q := by
  obtain ⟨a1, k1, c1, rfl, m1⟩ := h.form
  have H1 := Lib.hid m1
  have E1 := Lib.hid (show (!decide (x < 0) && decide (0 < mag x)) = decide (-x < 0) by unfold mag; by_cases h : x < 0 <;> simp [h] <;> omega)
  have E2 := Lib.hid (show mag (-x) = mag x by unfold mag; split <;> split <;> omega)
  clear h m1
  go_enter Try.func87, Try.ntmps87
  go_wp2_with fail
  go_region_held3 (fun w' => w'.cell? ⟨w.heap.size, 0, none⟩ = some (.bool (decide (x < 0))) ∧ w'.cell? ⟨w.heap.size, 1, none⟩ = some (.slice a1 k1 c1) ∧ w.heap.size + 1 < w'.heap.size ∧ Ext w w')
    (refine ⟨?_, ?_, ?_, ?_⟩ <;> first | (simp [go_sem, *]; done) | omega | (simp at z1; omega) | (simp at z2; omega) | (simp at z3; omega) | (simp at z4; omega) | exact (by repeat (first | with_reducible exact Ext.refl _ | with_reducible apply Ext.drew | with_reducible apply Ext.drewN | with_reducible apply Ext.alloc | ((with_reducible refine Ext.setCell ?_ ?_ _); rotate_left; focus (first | (simp; done) | (simp; omega) | omega)) | with_reducible refine Ext.tr ?_ x1 | with_reducible refine Ext.tr ?_ x2 | with_reducible assumption)))
    (first
      | ((go_at_call 112; refine (wclone_nat (H1.out.ext (by repeat (first | with_reducible exact Ext.refl _ | with_reducible apply Ext.drew | with_reducible apply Ext.drewN | with_reducible apply Ext.alloc | ((with_reducible refine Ext.setCell ?_ ?_ _); rotate_left; focus (first | (simp; done) | (simp; omega) | omega)) | with_reducible refine Ext.tr ?_ x1 | with_reducible refine Ext.tr ?_ x2 | with_reducible assumption))) hL).mono ?_; rintro e v1 ⟨q1, rfl, x1, h1⟩; obtain ⟨c1, f1⟩ := x1.rules; have z1 := x1.size; have k1_0_0 := c1 (w.heap.size) 0 (by first | (simp; done) | (simp; omega) | omega); have q1_0_0 := f1 (w.heap.size) 0 (by first | (simp; done) | (simp; omega) | omega); have k1_0_1 := c1 (w.heap.size) 1 (by first | (simp; done) | (simp; omega) | omega); have q1_0_1 := f1 (w.heap.size) 1 (by first | (simp; done) | (simp; omega) | omega); have k1_1_0 := c1 (w.heap.size + 1) 0 (by first | (simp; done) | (simp; omega) | omega); have q1_1_0 := f1 (w.heap.size + 1) 0 (by first | (simp; done) | (simp; omega) | omega); have k1_1_1 := c1 (w.heap.size + 1) 1 (by first | (simp; done) | (simp; omega) | omega); have q1_1_1 := f1 (w.heap.size + 1) 1 (by first | (simp; done) | (simp; omega) | omega); have z1_0 : w.heap.size < v1.heap.size := (by (try simp at z1); omega); have z1_1 : w.heap.size + 1 < v1.heap.size := (by (try simp at z1); omega); (try simp at z1); clear c1 f1; simp [go_sem, *] at k1_0_0 q1_0_0 k1_0_1 q1_0_1 k1_1_0 q1_1_0 k1_1_1 q1_1_1); obtain ⟨h1, n1⟩ := h1; have HH := Lib.hid h1; obtain ⟨a, k, cap, rfl, -⟩ := h1.form; have HN := Lib.hid n1; clear n1 h1)
      | (go_at_call 100; refine (wOf_raw _ HH.out _).mono ?_; rintro e v2 ⟨rfl, x2⟩; obtain ⟨c2, f2⟩ := x2.rules; have z2 := x2.size; have k2_0_0 := c2 (w.heap.size) 0 (by first | (simp; done) | (simp; omega) | omega); have q2_0_0 := f2 (w.heap.size) 0 (by first | (simp; done) | (simp; omega) | omega); have k2_0_1 := c2 (w.heap.size) 1 (by first | (simp; done) | (simp; omega) | omega); have q2_0_1 := f2 (w.heap.size) 1 (by first | (simp; done) | (simp; omega) | omega); have k2_1_0 := c2 (w.heap.size + 1) 0 (by first | (simp; done) | (simp; omega) | omega); have q2_1_0 := f2 (w.heap.size + 1) 0 (by first | (simp; done) | (simp; omega) | omega); have k2_1_1 := c2 (w.heap.size + 1) 1 (by first | (simp; done) | (simp; omega) | omega); have q2_1_1 := f2 (w.heap.size + 1) 1 (by first | (simp; done) | (simp; omega) | omega); have z2_0 : w.heap.size < v2.heap.size := (by (try simp at z2); omega); have z2_1 : w.heap.size + 1 < v2.heap.size := (by (try simp at z2); omega); (try simp at z2); clear c2 f2; simp [go_sem, *] at k2_0_0 q2_0_0 k2_0_1 q2_0_1 k2_1_0 q2_1_0 k2_1_1 q2_1_1))
  all_goals
    have O1 : Hid (Off (w.heap.size + 1) (.slice a k cap)) := Lib.hid (HN.out.off (by simp))
    have NW : Hid (New w (.slice a k cap)) := Lib.hid (fun b hb => by have := HN.out b hb; simp at this; omega)
    go_wp2
    simp [bodyPost, results, Try.results87, go_sem, *]
    exact ⟨IntAt.of E1.out (by rw [E2.out]; exact ((HH.out.ext (by repeat (first | with_reducible exact Ext.refl _ | with_reducible apply Ext.drew | with_reducible apply Ext.drewN | with_reducible apply Ext.alloc | ((with_reducible refine Ext.setCell ?_ ?_ _); rotate_left; focus (first | (simp; done) | (simp; omega) | omega)) | with_reducible refine Ext.tr ?_ x1 | with_reducible refine Ext.tr ?_ x2 | with_reducible assumption))).off O1.out).off O1.out), NewInt.mk NW.out⟩
end Go.Proofs.Ytjmecongccjcgaa
