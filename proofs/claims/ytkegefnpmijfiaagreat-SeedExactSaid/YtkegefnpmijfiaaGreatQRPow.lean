/- The references' powers: ref90.Pow, of numbers from 0 on. -/
import Derived.Test.YtkegefnpmijfiaaGreatQInts
import Derived.Test.YtkegefnpmijfiaaGreatQInts2
import Derived.Test.YtkegefnpmijfiaaGreatQRats
namespace Go.Proofs.YtkegefnpmijfiaaGreat
open Go.RowKit
set_option maxHeartbeats 2000000 in
set_option maxRecDepth 100000 in
theorem Pow_ref {u : Value} {x : Int} {L n : Nat} {w : World} (hu : IntAt w u x L) (x0 : 0 ≤ x) (hL : 1 ≤ L) (hL2 : L ≤ 100000) (hn : n ≤ 1000000) (hb : ∀ i, i ≤ n → x ^ i < 2 ^ (64 * L)) :
    Calls Tryz.prog 116 #[u, .int .i64 n] w fun e w' => ∃ q, e = .returned q ∧ Ext w w' ∧ IntAt w' q (x ^ n) L ∧ NewInt w q := by
  obtain ⟨a1, k1, c1, rfl, -⟩ := hu.form
  have sx : decide (x < 0) = false := by simp; omega
  rw [sx] at hu ⊢
  have HU := Lib.hid hu
  have HB := Lib.hid hb
  have P0 := Lib.hid (fun i : Nat => (Int.pow_nonneg x0 : 0 ≤ x ^ i))
  clear hu hb sx
  go_enter Tryz.func116, Tryz.ntmps116
  go_wp2_with fail; refine (From_new 1 _ (by omega) (by omega)).mono ?_; rintro e v1 ⟨q1, rfl, x1, h1⟩; obtain ⟨c1, f1⟩ := x1.rules; have z1 := x1.size; have lq := fun o => c1 (w.heap.size) o (by first | (simp; done) | (simp; omega) | omega); have mq := fun o => f1 (w.heap.size) o (by first | (simp; done) | (simp; omega) | omega); have k1_0_0 := lq 0; have q1_0_0 := mq 0; have k1_0_1 := lq 1; have q1_0_1 := mq 1; clear lq mq; have lq := fun o => c1 (w.heap.size + 1) o (by first | (simp; done) | (simp; omega) | omega); have mq := fun o => f1 (w.heap.size + 1) o (by first | (simp; done) | (simp; omega) | omega); have k1_1_0 := lq 0; have q1_1_0 := mq 0; have k1_1_1 := lq 1; have q1_1_1 := mq 1; clear lq mq; have z1_0 : w.heap.size < v1.heap.size := (by (try simp at z1); omega); have z1_1 : w.heap.size + 1 < v1.heap.size := (by (try simp at z1); omega); (try simp at z1); clear c1 f1; simp [go_sem, *] at k1_0_0 q1_0_0 k1_0_1 q1_0_1 k1_1_0 q1_1_0 k1_1_1 q1_1_1
  obtain ⟨h1, n1⟩ := h1
  obtain ⟨a, k, c, rfl, hf⟩ := h1.form
  have H1 := Lib.hid (show NatAt v1 (.slice a k c) (x ^ 0) L by rw [Int.pow_zero]; exact hf.mono hL)
  have N1 := Lib.hid (n1 _ _ rfl)
  have O1 := Lib.hid (NatAt.old H1.out (g := v1.heap.size) (Nat.le_refl _))
  clear h1 n1 hf
  go_wp2_with fail
  go_loopw [6] (fun i wr => ∃ (m : Nat) (a : Option Addr) (k c : Nat), m ≤ n ∧ i = .int .i64 m ∧ wr.cell? ⟨w.heap.size, 0, none⟩ = some (.bool false) ∧ wr.cell? ⟨w.heap.size, 1, none⟩ = some (.slice a1 k1 c1) ∧ wr.cell? ⟨w.heap.size + 1, 0, none⟩ = some (.bool false) ∧ wr.cell? ⟨w.heap.size + 1, 1, none⟩ = some (.slice none 0 0) ∧ wr.cell? ⟨v1.heap.size, 0, none⟩ = some (.bool false) ∧ wr.cell? ⟨v1.heap.size, 1, none⟩ = some (.slice a k c) ∧ wr.frozen? ⟨w.heap.size + 1, 0, none⟩ = false ∧ wr.frozen? ⟨w.heap.size + 1, 1, none⟩ = false ∧ wr.frozen? ⟨v1.heap.size, 0, none⟩ = false ∧ wr.frozen? ⟨v1.heap.size, 1, none⟩ = false ∧ NatAt wr (.slice a k c) (x ^ m) L ∧ New w (.slice a k c) ∧ Off (w.heap.size + 1) (.slice a k c) ∧ v1.heap.size < wr.heap.size ∧ Ext w wr) (fun i _ => n - (intOf i).toNat)
  case atStart =>
    have NW := N1.out.old (w := w) (by first | (simp; done) | (simp; omega) | omega)
    have OX := N1.out.off (g := w.heap.size + 1) (by first | (simp; done) | (simp; omega) | omega)
    exact ⟨0, a, k, c, Nat.zero_le _, rfl, by simp [go_sem, *], by simp [go_sem, *], by simp [go_sem, *], by simp [go_sem, *], by simp [go_sem, *], by simp [go_sem, *], by simp [go_sem, *], by simp [go_sem, *], by simp [go_sem, *], by simp [go_sem, *], (by repeat (first | with_reducible exact H1.out | with_reducible refine NatAt.alloc' ?_ | with_reducible refine NatAt.drew' ?_ | with_reducible refine NatAt.drewN' ?_ | with_reducible refine NatAt.off ?_ O1.out | with_reducible refine NatAt.ext ?_ x1 | with_reducible refine NatAt.ext ?_ x2 | with_reducible refine NatAt.ext ?_ hx | with_reducible refine NatAt.ext ?_ hext)), NW, OX, (by first | (simp; done) | (simp; omega) | omega), Ext.q⟩
  case round =>
    obtain ⟨m, a, k, c, hm, rfl, t0, t1, t2, t3, t4, t5, t6, t7, t8, t9, hx, hnw, hox, tz, hext⟩ := hrel
    have HX := Lib.hid hx
    have HNW := Lib.hid hnw
    have HOX := Lib.hid hox
    have tw1 : w.heap.size + 1 < wr.heap.size := by omega
    have tw2 : w.heap.size < wr.heap.size := by omega
    have SM := Lib.hid (show false = decide (x ^ m < 0) by have := P0.out m; symm; simp; omega)
    have MM := Lib.hid (mag_of (P0.out m))
    clear hx hnw hox H1 N1 O1
    rcases Nat.lt_or_ge m n with hlt | hge
    · go_wp2_with fail; refine (Times_ref (L := L) (IntAt.of (x := x ^ m) SM.out (by rw [MM.out]; exact HX.out.ext Ext.q)) (HU.out.ext Ext.q) (by omega)).mono ?_; rintro e v2 ⟨q2, rfl, x2, h2⟩; obtain ⟨c2, f2⟩ := x2.rules; have z2 := x2.size; have lq := fun o => c2 (w.heap.size) o (by first | (simp; done) | (simp; omega) | omega); have mq := fun o => f2 (w.heap.size) o (by first | (simp; done) | (simp; omega) | omega); have k2_0_0 := lq 0; have q2_0_0 := mq 0; have k2_0_1 := lq 1; have q2_0_1 := mq 1; clear lq mq; have lq := fun o => c2 (w.heap.size + 1) o (by first | (simp; done) | (simp; omega) | omega); have mq := fun o => f2 (w.heap.size + 1) o (by first | (simp; done) | (simp; omega) | omega); have k2_1_0 := lq 0; have q2_1_0 := mq 0; have k2_1_1 := lq 1; have q2_1_1 := mq 1; clear lq mq; have lq := fun o => c2 (v1.heap.size) o (by first | (simp; done) | (simp; omega) | omega); have mq := fun o => f2 (v1.heap.size) o (by first | (simp; done) | (simp; omega) | omega); have k2_v1_heap_size_0 := lq 0; have q2_v1_heap_size_0 := mq 0; have k2_v1_heap_size_1 := lq 1; have q2_v1_heap_size_1 := mq 1; clear lq mq; have z2_0 : w.heap.size < v2.heap.size := (by (try simp at z2); omega); have z2_1 : w.heap.size + 1 < v2.heap.size := (by (try simp at z2); omega); have z2_v1_heap_size : v1.heap.size < v2.heap.size := (by (try simp at z2); omega); (try simp at z2); clear c2 f2; simp [go_sem, *] at k2_0_0 q2_0_0 k2_0_1 q2_0_1 k2_1_0 q2_1_0 k2_1_1 q2_1_1 k2_v1_heap_size_0 q2_v1_heap_size_0 k2_v1_heap_size_1 q2_v1_heap_size_1; (try clear k1_0_0); (try clear q1_0_0); (try clear k1_0_1); (try clear q1_0_1); (try clear k1_1_0); (try clear q1_1_0); (try clear k1_1_1); (try clear q1_1_1)
      rw [← Int.pow_succ] at h2
      obtain ⟨h2, n2⟩ := h2
      have s2 : decide (x ^ (m + 1) < 0) = false := by have := P0.out (m + 1); simp; omega
      obtain ⟨a2, k2, c2, rfl, hf⟩ := h2.form
      rw [s2]
      have H2 := Lib.hid (show NatAt v2 (.slice a2 k2 c2) (x ^ (m + 1)) L by rw [← mag_of (P0.out (m + 1))]; exact hf.small (by rw [mag_of (P0.out (m + 1))]; exact HB.out _ (by omega)))
      have N2 := Lib.hid (n2 _ _ rfl)
      have O2 := Lib.hid (N2.out.off (g := v1.heap.size) (by first | (simp; done) | (simp; omega) | omega))
      clear h2 n2 hf s2
      go_wp2_with fail
      go_roundw
      case rel =>
        have NW := N2.out.old (w := w) (by first | (simp; done) | (simp; omega) | omega)
        have OX := N2.out.off (g := w.heap.size + 1) (by first | (simp; done) | (simp; omega) | omega)
        exact ⟨m + 1, a2, k2, c2, by omega, by go_num, by simp [go_sem, *], by simp [go_sem, *], by simp [go_sem, *], by simp [go_sem, *], by simp [go_sem, *], by simp [go_sem, *], by simp [go_sem, *], by simp [go_sem, *], by simp [go_sem, *], by simp [go_sem, *], (by repeat (first | with_reducible exact H2.out | with_reducible refine NatAt.alloc' ?_ | with_reducible refine NatAt.drew' ?_ | with_reducible refine NatAt.drewN' ?_ | with_reducible refine NatAt.off ?_ O2.out | with_reducible refine NatAt.ext ?_ x1 | with_reducible refine NatAt.ext ?_ x2 | with_reducible refine NatAt.ext ?_ hx | with_reducible refine NatAt.ext ?_ hext)), NW, OX, (by first | (simp; done) | (simp; omega) | omega), Ext.q⟩
      case measure => simp [intOf]; omega
    · obtain rfl : m = n := by omega
      have HXM := Lib.hid (show NatAt wr (.slice a k c) (mag (x ^ m)) L by rw [MM.out]; exact HX.out)
      go_wp2
      simp [bodyPost, results, Tryz.results116, go_sem, *]
      exact ⟨Ext.q, IntAt.of SM.out (by repeat (first | with_reducible exact HXM.out | with_reducible refine NatAt.alloc' ?_ | with_reducible refine NatAt.drew' ?_ | with_reducible refine NatAt.drewN' ?_ | with_reducible refine NatAt.off ?_ HOX.out | with_reducible refine NatAt.ext ?_ x1 | with_reducible refine NatAt.ext ?_ x2 | with_reducible refine NatAt.ext ?_ hx | with_reducible refine NatAt.ext ?_ hext)), NewInt.mk HNW.out⟩
end Go.Proofs.YtkegefnpmijfiaaGreat
