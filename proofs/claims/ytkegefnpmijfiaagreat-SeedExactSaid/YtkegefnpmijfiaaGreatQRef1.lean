/- ref1: Rat, Int. ref2: Word, Over. -/
import Derived.Test.YtkegefnpmijfiaaGreatQInts2
import Derived.Test.YtkegefnpmijfiaaGreatQReckon
namespace Go.Proofs.YtkegefnpmijfiaaGreat
open Go.RowKit
theorem Word_ref {v : Value} {x : Int} {L : Nat} {w : World} (h : IntAt w v x L) :
    Calls Tryz.prog 128 #[v] w fun e w' => e = .returned (.tuple #[.int .i64 (wv x), .int .i64 (we x)]) ∧ Ext w w' := by
  have H := Lib.hid h
  obtain ⟨a, k, c, rfl, -⟩ := h.form
  clear h
  have S := Lib.hid (fun (u : World) h => Small_ref (v := .agg #[.bool (decide (x < 0)), .slice a k c]) (x := x) (L := L) (w := u) h)
  by_cases hb : -9223372036854775808 ≤ x ∧ x < 9223372036854775808
  · have s := S.out
    rw [(sb_of hb).1, (sb_of hb).2] at s
    have S' := Lib.hid s
    clear s S hb
    cases g : gd x
    · rw [wv_no g, we_no g]
      go_enter Tryz.func128, Tryz.ntmps128
      go_wp2_with fail; refine (S'.out _ (H.out.ext Ext.q)).mono ?_; rintro e v1 ⟨rfl, x1⟩; obtain ⟨c1, f1⟩ := x1.rules; have z1 := x1.size
      go_wp2_with fail; refine (may2_any _ _).mono ?_; rintro e w' ⟨rfl, rfl⟩
      go_wp2
      go_ret2
      exact ⟨rfl, Ext.q⟩
    · rw [wv_of g, we_of g]
      go_enter Tryz.func128, Tryz.ntmps128
      go_wp2_with fail; refine (S'.out _ (H.out.ext Ext.q)).mono ?_; rintro e v1 ⟨rfl, x1⟩; obtain ⟨c1, f1⟩ := x1.rules; have z1 := x1.size
      go_wp2_with fail; refine (may2_any _ _).mono ?_; rintro e w' ⟨rfl, rfl⟩
      go_wp2
      go_ret2
      exact ⟨rfl, Ext.q⟩
  · have s := S.out
    have hb' : x < -9223372036854775808 ∨ 9223372036854775808 ≤ x := by omega
    rw [(sb_no hb').1, (sb_no hb').2] at s
    have S' := Lib.hid s
    have g : gd x = false := gd_f (by omega)
    rw [wv_no g, we_no g]
    clear s S hb hb' g
    go_enter Tryz.func128, Tryz.ntmps128
    go_wp2_with fail; refine (S'.out _ (H.out.ext Ext.q)).mono ?_; rintro e v1 ⟨rfl, x1⟩; obtain ⟨c1, f1⟩ := x1.rules; have z1 := x1.size
    go_wp2
    go_ret2
    exact ⟨rfl, Ext.q⟩
/-- x with the sign of d. -/
def sgd (d x : Int) : Int := if d < 0 then -x else x
set_option maxHeartbeats 1000000 in
set_option maxRecDepth 100000 in
/-- n / d of whole numbers, d not 0. -/
theorem Rat1_ref {u v : Value} {n d : Int} {L : Nat} {w : World} (hu : IntAt w u n L) (hv : IntAt w v d L) (d0 : d ≠ 0) (hL : L ≤ 100000) :
    Calls Tryz.prog 188 #[u, v] w fun e w' => ∃ v n' d' g, e = .returned v ∧ Ext w w' ∧ 0 < g ∧ sgd d n = n' * g ∧ mag d = d' * g ∧ 0 < d' ∧ RatAt w' v n' d' L ∧ NewRat w v := by
  have HU := Lib.hid hu
  obtain ⟨a1, k1, c1, rfl, m1⟩ := hu.form
  obtain ⟨a2, k2, c2, rfl, m2⟩ := hv.form
  have M1 := Lib.hid m1
  have M2 := Lib.hid m2
  have P := Lib.hid (show 0 < mag d by unfold mag; split <;> omega)
  clear hu hv m1 m2
  by_cases hd : d < 0
  · have sd : decide (d < 0) = true := by simp [hd]
    rw [show sgd d n = -n from if_pos hd, sd]
    have MN := Lib.hid (show mag (-n) = mag n by unfold mag; split <;> split <;> omega)
    clear hd sd d0
    go_enter Tryz.func188, Tryz.ntmps188
    go_wp2_with fail; refine (Neg_raw M1.out _).mono ?_; rintro e v1 ⟨rfl, x1⟩; obtain ⟨c1, f1⟩ := x1.rules; have z1 := x1.size; have lq := fun o => c1 (w.heap.size) o (by first | (simp; done) | (simp; omega) | omega); have mq := fun o => f1 (w.heap.size) o (by first | (simp; done) | (simp; omega) | omega); have k1_0_0 := lq 0; have q1_0_0 := mq 0; have k1_0_1 := lq 1; have q1_0_1 := mq 1; clear lq mq; have lq := fun o => c1 (w.heap.size + 1) o (by first | (simp; done) | (simp; omega) | omega); have mq := fun o => f1 (w.heap.size + 1) o (by first | (simp; done) | (simp; omega) | omega); have k1_1_0 := lq 0; have q1_1_0 := mq 0; have k1_1_1 := lq 1; have q1_1_1 := mq 1; clear lq mq; have lq := fun o => c1 (w.heap.size + 2) o (by first | (simp; done) | (simp; omega) | omega); have mq := fun o => f1 (w.heap.size + 2) o (by first | (simp; done) | (simp; omega) | omega); have k1_2_0 := lq 0; have q1_2_0 := mq 0; have k1_2_1 := lq 1; have q1_2_1 := mq 1; have k1_2_2 := lq 2; have q1_2_2 := mq 2; clear lq mq; have z1_0 : w.heap.size < v1.heap.size := (by (try simp at z1); omega); have z1_1 : w.heap.size + 1 < v1.heap.size := (by (try simp at z1); omega); have z1_2 : w.heap.size + 2 < v1.heap.size := (by (try simp at z1); omega); (try simp at z1); clear c1 f1; simp [go_sem, *] at k1_0_0 q1_0_0 k1_0_1 q1_0_1 k1_1_0 q1_1_0 k1_1_1 q1_1_1 k1_2_0 q1_2_0 k1_2_1 q1_2_1 k1_2_2 q1_2_2
    go_wp2_with fail
    have HU2 := Lib.hid (show IntAt w (.agg #[.bool (decide (0 < n)), .slice a1 k1 c1]) (-n) L from IntAt.of (by simp) (by rw [MN.out]; exact M1.out))
    refine (Make_ref (HU2.out.ext Ext.q) (M2.out.ext Ext.q) P.out hL).mono ?_; rintro e v2 ⟨v, n', d', g, rfl, x2, g0, e1, e2, y0, h4, nr⟩; obtain ⟨c2, f2⟩ := x2.rules; have z2 := x2.size; have lq := fun o => c2 (w.heap.size) o (by first | (simp; done) | (simp; omega) | omega); have mq := fun o => f2 (w.heap.size) o (by first | (simp; done) | (simp; omega) | omega); have k2_0_0 := lq 0; have q2_0_0 := mq 0; have k2_0_1 := lq 1; have q2_0_1 := mq 1; clear lq mq; have lq := fun o => c2 (w.heap.size + 1) o (by first | (simp; done) | (simp; omega) | omega); have mq := fun o => f2 (w.heap.size + 1) o (by first | (simp; done) | (simp; omega) | omega); have k2_1_0 := lq 0; have q2_1_0 := mq 0; have k2_1_1 := lq 1; have q2_1_1 := mq 1; clear lq mq; have lq := fun o => c2 (w.heap.size + 2) o (by first | (simp; done) | (simp; omega) | omega); have mq := fun o => f2 (w.heap.size + 2) o (by first | (simp; done) | (simp; omega) | omega); have k2_2_0 := lq 0; have q2_2_0 := mq 0; have k2_2_1 := lq 1; have q2_2_1 := mq 1; have k2_2_2 := lq 2; have q2_2_2 := mq 2; clear lq mq; have z2_0 : w.heap.size < v2.heap.size := (by (try simp at z2); omega); have z2_1 : w.heap.size + 1 < v2.heap.size := (by (try simp at z2); omega); have z2_2 : w.heap.size + 2 < v2.heap.size := (by (try simp at z2); omega); (try simp at z2); clear c2 f2; simp [go_sem, *] at k2_0_0 q2_0_0 k2_0_1 q2_0_1 k2_1_0 q2_1_0 k2_1_1 q2_1_1 k2_2_0 q2_2_0 k2_2_1 q2_2_1 k2_2_2 q2_2_2
    have E1 := Lib.hid e1
    have E2 := Lib.hid e2
    obtain ⟨a7, k7, c7, b7, l7, f7, rfl, s1, s2⟩ := h4.is
    obtain ⟨nw1, nw2⟩ := nr _ _ _ rfl
    have S1 := Lib.hid s1
    have S2 := Lib.hid s2
    have N1 := Lib.hid nw1
    have N2 := Lib.hid nw2
    have O1 := Lib.hid (nw1.off (g := w.heap.size + 1 + 1) (by first | (simp; done) | (simp; omega) | omega))
    have O2 := Lib.hid (nw2.off (g := w.heap.size + 1 + 1) (by first | (simp; done) | (simp; omega) | omega))
    clear h4 e1 e2 nr nw1 nw2 s1 s2
    go_wp2
    simp [bodyPost, results, Tryz.results188, go_sem, *]
    exact ⟨Ext.q, n', d', g, g0, E1.out, E2.out, y0, ⟨⟨a7, k7, c7, b7, l7, f7, rfl, (by repeat (first | with_reducible exact S1.out | with_reducible refine NatAt.alloc' ?_ | with_reducible refine NatAt.drew' ?_ | with_reducible refine NatAt.drewN' ?_ | with_reducible refine NatAt.off ?_ O1.out | with_reducible refine NatAt.ext ?_ x1 | with_reducible refine NatAt.ext ?_ x2)), (by repeat (first | with_reducible exact S2.out | with_reducible refine NatAt.alloc' ?_ | with_reducible refine NatAt.drew' ?_ | with_reducible refine NatAt.drewN' ?_ | with_reducible refine NatAt.off ?_ O2.out | with_reducible refine NatAt.ext ?_ x1 | with_reducible refine NatAt.ext ?_ x2))⟩⟩, NewRat.mk (N1.out.old (by first | (simp; done) | (simp; omega) | omega)) (N2.out.old (by first | (simp; done) | (simp; omega) | omega))⟩
  · have sd : decide (d < 0) = false := by simp; omega
    rw [show sgd d n = n from if_neg hd, sd]
    clear hd sd d0
    go_enter Tryz.func188, Tryz.ntmps188
    go_wp2_with fail
    refine (Make_ref (HU.out.ext Ext.q) (M2.out.ext Ext.q) P.out hL).mono ?_; rintro e v2 ⟨v, n', d', g, rfl, x2, g0, e1, e2, y0, h4, nr⟩; obtain ⟨c2, f2⟩ := x2.rules; have z2 := x2.size; have lq := fun o => c2 (w.heap.size) o (by first | (simp; done) | (simp; omega) | omega); have mq := fun o => f2 (w.heap.size) o (by first | (simp; done) | (simp; omega) | omega); have k2_0_0 := lq 0; have q2_0_0 := mq 0; have k2_0_1 := lq 1; have q2_0_1 := mq 1; clear lq mq; have lq := fun o => c2 (w.heap.size + 1) o (by first | (simp; done) | (simp; omega) | omega); have mq := fun o => f2 (w.heap.size + 1) o (by first | (simp; done) | (simp; omega) | omega); have k2_1_0 := lq 0; have q2_1_0 := mq 0; have k2_1_1 := lq 1; have q2_1_1 := mq 1; clear lq mq; have lq := fun o => c2 (w.heap.size + 2) o (by first | (simp; done) | (simp; omega) | omega); have mq := fun o => f2 (w.heap.size + 2) o (by first | (simp; done) | (simp; omega) | omega); have k2_2_0 := lq 0; have q2_2_0 := mq 0; have k2_2_1 := lq 1; have q2_2_1 := mq 1; have k2_2_2 := lq 2; have q2_2_2 := mq 2; clear lq mq; have z2_0 : w.heap.size < v2.heap.size := (by (try simp at z2); omega); have z2_1 : w.heap.size + 1 < v2.heap.size := (by (try simp at z2); omega); have z2_2 : w.heap.size + 2 < v2.heap.size := (by (try simp at z2); omega); (try simp at z2); clear c2 f2; simp [go_sem, *] at k2_0_0 q2_0_0 k2_0_1 q2_0_1 k2_1_0 q2_1_0 k2_1_1 q2_1_1 k2_2_0 q2_2_0 k2_2_1 q2_2_1 k2_2_2 q2_2_2
    have E1 := Lib.hid e1
    have E2 := Lib.hid e2
    obtain ⟨a7, k7, c7, b7, l7, f7, rfl, s1, s2⟩ := h4.is
    obtain ⟨nw1, nw2⟩ := nr _ _ _ rfl
    have S1 := Lib.hid s1
    have S2 := Lib.hid s2
    have N1 := Lib.hid nw1
    have N2 := Lib.hid nw2
    have O1 := Lib.hid (nw1.off (g := w.heap.size + 1 + 1) (by first | (simp; done) | (simp; omega) | omega))
    have O2 := Lib.hid (nw2.off (g := w.heap.size + 1 + 1) (by first | (simp; done) | (simp; omega) | omega))
    clear h4 e1 e2 nr nw1 nw2 s1 s2
    go_wp2
    simp [bodyPost, results, Tryz.results188, go_sem, *]
    exact ⟨Ext.q, n', d', g, g0, E1.out, E2.out, y0, ⟨⟨a7, k7, c7, b7, l7, f7, rfl, (by repeat (first | with_reducible exact S1.out | with_reducible refine NatAt.alloc' ?_ | with_reducible refine NatAt.drew' ?_ | with_reducible refine NatAt.drewN' ?_ | with_reducible refine NatAt.off ?_ O1.out | with_reducible refine NatAt.ext ?_ x1 | with_reducible refine NatAt.ext ?_ x2)), (by repeat (first | with_reducible exact S2.out | with_reducible refine NatAt.alloc' ?_ | with_reducible refine NatAt.drew' ?_ | with_reducible refine NatAt.drewN' ?_ | with_reducible refine NatAt.off ?_ O2.out | with_reducible refine NatAt.ext ?_ x1 | with_reducible refine NatAt.ext ?_ x2))⟩⟩, NewRat.mk (N1.out.old (by first | (simp; done) | (simp; omega) | omega)) (N2.out.old (by first | (simp; done) | (simp; omega) | omega))⟩
set_option maxHeartbeats 2000000 in
theorem Over_ref {u v : Value} {n d b : Int} {L L' : Nat} {w : World} (hu : IntAt w u n L) (hv : IntAt w v d L) (d0 : d ≠ 0) (hL : L ≤ 10000) (b0 : 0 ≤ b) (b1 : b ≤ 1000) (hl : L + b.toNat / 64 + 1 ≤ L') (hL' : L' ≤ 100000) :
    Calls Tryz.prog 115 #[u, v, .int .i64 b] w fun e w' => ∃ v n' d' g, e = .returned v ∧ Ext w w' ∧ 0 < g ∧ sgd d (n * p2 b) = n' * g ∧ mag d = d' * g ∧ 0 < d' ∧ RatAt w' v n' d' L' := by
  have HU := Lib.hid hu
  have HV := Lib.hid (hv.mono (show L ≤ L' by omega))
  obtain ⟨a1, k1, c1, rfl, m1⟩ := hu.form
  obtain ⟨a2, k2, c2, rfl, m2⟩ := hv.form
  clear hu hv m1 m2
  go_enter Tryz.func115, Tryz.ntmps115
  go_wp2_with fail
  go_region_held3 (fun w' => w'.cell? ⟨w.heap.size, 0, none⟩ = some (.bool (decide (n < 0))) ∧ w'.cell? ⟨w.heap.size, 1, none⟩ = some (.slice a1 k1 c1) ∧ w'.cell? ⟨w.heap.size + 1, 0, none⟩ = some (.bool (decide (d < 0))) ∧ w'.cell? ⟨w.heap.size + 1, 1, none⟩ = some (.slice a2 k2 c2) ∧ w.heap.size + 2 < w'.heap.size ∧ Ext w w')
    (refine ⟨?_, ?_, ?_, ?_, ?_, ?_⟩ <;> first | (simp [go_sem, *]; done) | omega | (simp at z1; omega) | (simp at z2; omega) | (simp at z3; omega) | (simp at z4; omega) | exact Ext.q)
    (first
      | ((go_at_call 74; refine (Left_p2r (HU.out.ext Ext.q) (by omega) b0 b1 hl).mono ?_; rintro e v1 ⟨q1, rfl, x1, h1⟩; obtain ⟨c1, f1⟩ := x1.rules; have z1 := x1.size; have lq := fun o => c1 (w.heap.size) o (by first | (simp; done) | (simp; omega) | omega); have mq := fun o => f1 (w.heap.size) o (by first | (simp; done) | (simp; omega) | omega); have k1_0_0 := lq 0; have q1_0_0 := mq 0; have k1_0_1 := lq 1; have q1_0_1 := mq 1; clear lq mq; have lq := fun o => c1 (w.heap.size + 1) o (by first | (simp; done) | (simp; omega) | omega); have mq := fun o => f1 (w.heap.size + 1) o (by first | (simp; done) | (simp; omega) | omega); have k1_1_0 := lq 0; have q1_1_0 := mq 0; have k1_1_1 := lq 1; have q1_1_1 := mq 1; clear lq mq; have lq := fun o => c1 (w.heap.size + 2) o (by first | (simp; done) | (simp; omega) | omega); have mq := fun o => f1 (w.heap.size + 2) o (by first | (simp; done) | (simp; omega) | omega); have k1_2_0 := lq 0; have q1_2_0 := mq 0; have k1_2_1 := lq 1; have q1_2_1 := mq 1; have k1_2_2 := lq 2; have q1_2_2 := mq 2; clear lq mq; have z1_0 : w.heap.size < v1.heap.size := (by (try simp at z1); omega); have z1_1 : w.heap.size + 1 < v1.heap.size := (by (try simp at z1); omega); have z1_2 : w.heap.size + 2 < v1.heap.size := (by (try simp at z1); omega); (try simp at z1); clear c1 f1; simp [go_sem, *] at k1_0_0 q1_0_0 k1_0_1 q1_0_1 k1_1_0 q1_1_0 k1_1_1 q1_1_1 k1_2_0 q1_2_0 k1_2_1 q1_2_1 k1_2_2 q1_2_2); have H1 := Lib.hid h1.1; clear h1 HU)
      | (go_at_call 188; refine (Rat1_ref (H1.out.ext Ext.q) (HV.out.ext Ext.q) d0 (by omega)).mono ?_; rintro e v2 ⟨v, n', d', g, rfl, x2, g0, e1, e2, y0, h4, nr⟩; obtain ⟨c2, f2⟩ := x2.rules; have z2 := x2.size; have lq := fun o => c2 (w.heap.size) o (by first | (simp; done) | (simp; omega) | omega); have mq := fun o => f2 (w.heap.size) o (by first | (simp; done) | (simp; omega) | omega); have k2_0_0 := lq 0; have q2_0_0 := mq 0; have k2_0_1 := lq 1; have q2_0_1 := mq 1; clear lq mq; have lq := fun o => c2 (w.heap.size + 1) o (by first | (simp; done) | (simp; omega) | omega); have mq := fun o => f2 (w.heap.size + 1) o (by first | (simp; done) | (simp; omega) | omega); have k2_1_0 := lq 0; have q2_1_0 := mq 0; have k2_1_1 := lq 1; have q2_1_1 := mq 1; clear lq mq; have lq := fun o => c2 (w.heap.size + 2) o (by first | (simp; done) | (simp; omega) | omega); have mq := fun o => f2 (w.heap.size + 2) o (by first | (simp; done) | (simp; omega) | omega); have k2_2_0 := lq 0; have q2_2_0 := mq 0; have k2_2_1 := lq 1; have q2_2_1 := mq 1; have k2_2_2 := lq 2; have q2_2_2 := mq 2; clear lq mq; have z2_0 : w.heap.size < v2.heap.size := (by (try simp at z2); omega); have z2_1 : w.heap.size + 1 < v2.heap.size := (by (try simp at z2); omega); have z2_2 : w.heap.size + 2 < v2.heap.size := (by (try simp at z2); omega); (try simp at z2); clear c2 f2; simp [go_sem, *] at k2_0_0 q2_0_0 k2_0_1 q2_0_1 k2_1_0 q2_1_0 k2_1_1 q2_1_1 k2_2_0 q2_2_0 k2_2_1 q2_2_1 k2_2_2 q2_2_2; obtain ⟨a7, k7, c7, b7, l7, f7, rfl, s1, s2⟩ := h4.is; obtain ⟨nw1, nw2⟩ := nr _ _ _ rfl; have E1 := Lib.hid e1; have E2 := Lib.hid e2; have S1 := Lib.hid s1; have S2 := Lib.hid s2; have N1 := Lib.hid nw1; have N2 := Lib.hid nw2; clear h4 e1 e2 nr nw1 nw2 s1 s2 H1 HV))
  all_goals
    have O1 := Lib.hid (N1.out.off (g := w.heap.size + 1 + 1) (by first | (simp; done) | (simp; omega) | omega))
    have O2 := Lib.hid (N2.out.off (g := w.heap.size + 1 + 1) (by first | (simp; done) | (simp; omega) | omega))
    go_wp2
    simp [bodyPost, results, Tryz.results115, go_sem, *]
    exact ⟨n', d', g, g0, E1.out, E2.out, y0, ⟨⟨a7, k7, c7, b7, l7, f7, rfl, (by repeat (first | with_reducible exact S1.out | with_reducible refine NatAt.alloc' ?_ | with_reducible refine NatAt.drew' ?_ | with_reducible refine NatAt.drewN' ?_ | with_reducible refine NatAt.off ?_ O1.out | with_reducible refine NatAt.ext ?_ x1 | with_reducible refine NatAt.ext ?_ x2)), (by repeat (first | with_reducible exact S2.out | with_reducible refine NatAt.alloc' ?_ | with_reducible refine NatAt.drew' ?_ | with_reducible refine NatAt.drewN' ?_ | with_reducible refine NatAt.off ?_ O2.out | with_reducible refine NatAt.ext ?_ x1 | with_reducible refine NatAt.ext ?_ x2))⟩⟩⟩
end Go.Proofs.YtkegefnpmijfiaaGreat
