/- ref91: den, Neg, Abs, Make. ref91: From, Int, Over2, Neg, Abs. ref91: Plus, Less, Cmp. -/
import Derived.Test.YtkegefnpmijfiaaGreatQInts
namespace Go.Proofs.YtkegefnpmijfiaaGreat
open Go.RowKit
/-- n over d, as a world holds it (lowest terms or not). -/
structure RatAt (w : World) (v : Value) (n d : Int) (L : Nat) : Prop where
  is : ∃ a k c b l e, v = .agg #[.bool (decide (n < 0)), .slice a k c, .slice b l e] ∧ NatAt w (.slice a k c) (mag n) L ∧ NatAt w (.slice b l e) d L
theorem RatAt.ext {w w' : World} {v : Value} {n d : Int} {L : Nat} (h : RatAt w v n d L) (x : Ext w w') : RatAt w' v n d L := by
  obtain ⟨a, k, c, b, l, e, h1, h2, h3⟩ := h.is; exact ⟨⟨a, k, c, b, l, e, h1, h2.ext x, h3.ext x⟩⟩
theorem RatAt.mono {w : World} {v : Value} {n d : Int} {L L' : Nat} (h : RatAt w v n d L) (hl : L ≤ L') : RatAt w v n d L' := by
  obtain ⟨a, k, c, b, l, e, h1, h2, h3⟩ := h.is; exact ⟨⟨a, k, c, b, l, e, h1, h2.mono hl, h3.mono hl⟩⟩
theorem den_ref {v : Value} {n d : Int} {L : Nat} {w : World} (h : RatAt w v n d L) :
    Calls Tryz.prog 249 #[v] w fun e w' => ∃ q, e = .returned q ∧ Ext w w' ∧ IntAt w' q d L := by
  obtain ⟨a, k, c, b, l, e, rfl, h2, h3⟩ := h.is
  have R := Lib.hid (fun u => Made_raw false h3 u)
  have H3 := Lib.hid h3
  have d0 := Lib.hid h3.nn
  clear h h2 h3
  go_enter Tryz.func249, Tryz.ntmps249
  go_wp2_with fail; refine (R.out _).mono ?_; rintro e v1 ⟨rfl, x1⟩; obtain ⟨c1, f1⟩ := x1.rules; have z1 := x1.size; have lq := fun o => c1 (w.heap.size) o (by first | (simp; done) | (simp; omega) | omega); have mq := fun o => f1 (w.heap.size) o (by first | (simp; done) | (simp; omega) | omega); have k1_0_0 := lq 0; have q1_0_0 := mq 0; have k1_0_1 := lq 1; have q1_0_1 := mq 1; have k1_0_2 := lq 2; have q1_0_2 := mq 2; clear lq mq; have lq := fun o => c1 (w.heap.size + 1) o (by first | (simp; done) | (simp; omega) | omega); have mq := fun o => f1 (w.heap.size + 1) o (by first | (simp; done) | (simp; omega) | omega); have k1_1_0 := lq 0; have q1_1_0 := mq 0; have k1_1_1 := lq 1; have q1_1_1 := mq 1; clear lq mq; have z1_0 : w.heap.size < v1.heap.size := (by (try simp at z1); omega); have z1_1 : w.heap.size + 1 < v1.heap.size := (by (try simp at z1); omega); (try simp at z1); clear c1 f1; simp [go_sem, *] at k1_0_0 q1_0_0 k1_0_1 q1_0_1 k1_0_2 q1_0_2 k1_1_0 q1_1_0 k1_1_1 q1_1_1
  go_wp2
  simp [bodyPost, results, Tryz.results249, go_sem, *]
  have dd := d0.out
  exact ⟨Ext.q, IntAt.of (by symm; simp; omega) (by rw [mag, if_neg (by omega)]; exact H3.out.ext Ext.q)⟩
theorem Neg_raw {x : Int} {a : Option Addr} {k c L : Nat} {w0 : World} (hm : NatAt w0 (.slice a k c) (mag x) L) (w : World) :
    Calls Tryz.prog 113 #[.agg #[.bool (decide (x < 0)), .slice a k c]] w fun e w' => e = .returned (.agg #[.bool (decide (-x < 0)), .slice a k c]) ∧ Ext w w' := by
  have R := Lib.hid (fun u => Made_raw (!decide (x < 0)) hm u)
  have e1 : (!decide (x < 0) && decide (0 < mag x)) = decide (-x < 0) := by unfold mag; by_cases h : x < 0 <;> simp [h] <;> omega
  rw [← e1]
  clear hm e1
  go_enter Tryz.func113, Tryz.ntmps113
  go_wp2_with fail; refine (R.out _).mono ?_; rintro e v1 ⟨rfl, x1⟩; obtain ⟨c1, f1⟩ := x1.rules; have z1 := x1.size; have lq := fun o => c1 (w.heap.size) o (by first | (simp; done) | (simp; omega) | omega); have mq := fun o => f1 (w.heap.size) o (by first | (simp; done) | (simp; omega) | omega); have k1_0_0 := lq 0; have q1_0_0 := mq 0; have k1_0_1 := lq 1; have q1_0_1 := mq 1; clear lq mq; have lq := fun o => c1 (w.heap.size + 1) o (by first | (simp; done) | (simp; omega) | omega); have mq := fun o => f1 (w.heap.size + 1) o (by first | (simp; done) | (simp; omega) | omega); have k1_1_0 := lq 0; have q1_1_0 := mq 0; have k1_1_1 := lq 1; have q1_1_1 := mq 1; clear lq mq; have z1_0 : w.heap.size < v1.heap.size := (by (try simp at z1); omega); have z1_1 : w.heap.size + 1 < v1.heap.size := (by (try simp at z1); omega); (try simp at z1); clear c1 f1; simp [go_sem, *] at k1_0_0 q1_0_0 k1_0_1 q1_0_1 k1_1_0 q1_1_0 k1_1_1 q1_1_1
  go_wp2
  simp [bodyPost, results, Tryz.results113, go_sem, *]
  exact Ext.q
theorem Abs_raw {x : Int} {s : Bool} {a : Option Addr} {k c L : Nat} {w0 : World} (hm : NatAt w0 (.slice a k c) (mag x) L) (w : World) :
    Calls Tryz.prog 72 #[.agg #[.bool s, .slice a k c]] w fun e w' => e = .returned (.agg #[.bool false, .slice a k c]) ∧ Ext w w' := by
  have R := Lib.hid (fun u => Made_raw false hm u)
  clear hm
  go_enter Tryz.func72, Tryz.ntmps72
  go_wp2_with fail; refine (R.out _).mono ?_; rintro e v1 ⟨rfl, x1⟩; obtain ⟨c1, f1⟩ := x1.rules; have z1 := x1.size; have lq := fun o => c1 (w.heap.size) o (by first | (simp; done) | (simp; omega) | omega); have mq := fun o => f1 (w.heap.size) o (by first | (simp; done) | (simp; omega) | omega); have k1_0_0 := lq 0; have q1_0_0 := mq 0; have k1_0_1 := lq 1; have q1_0_1 := mq 1; clear lq mq; have lq := fun o => c1 (w.heap.size + 1) o (by first | (simp; done) | (simp; omega) | omega); have mq := fun o => f1 (w.heap.size + 1) o (by first | (simp; done) | (simp; omega) | omega); have k1_1_0 := lq 0; have q1_1_0 := mq 0; have k1_1_1 := lq 1; have q1_1_1 := mq 1; clear lq mq; have z1_0 : w.heap.size < v1.heap.size := (by (try simp at z1); omega); have z1_1 : w.heap.size + 1 < v1.heap.size := (by (try simp at z1); omega); (try simp at z1); clear c1 f1; simp [go_sem, *] at k1_0_0 q1_0_0 k1_0_1 q1_0_1 k1_1_0 q1_1_0 k1_1_1 q1_1_1
  go_wp2
  simp [bodyPost, results, Tryz.results72, go_sem, *]
  exact Ext.q
theorem gcd_parts {n d : Int} (hd : 0 < d) : 0 < (Int.gcd (mag n) d : Int) ∧ n = sg (decide (n < 0)) (mag n / Int.gcd (mag n) d) * Int.gcd (mag n) d ∧ d = d / Int.gcd (mag n) d * Int.gcd (mag n) d ∧ 0 < d / Int.gcd (mag n) d ∧ 0 ≤ mag n / Int.gcd (mag n) d := by
  have g0 : 0 < (Int.gcd (mag n) d : Int) := by
    have := Int.gcd_pos_of_ne_zero_right (mag n) (show d ≠ 0 by omega)
    omega
  have h1 : mag n / Int.gcd (mag n) d * Int.gcd (mag n) d = mag n := Int.ediv_mul_cancel (Int.gcd_dvd_left _ _)
  have h2 : d / Int.gcd (mag n) d * Int.gcd (mag n) d = d := Int.ediv_mul_cancel (Int.gcd_dvd_right _ _)
  have hm := mag_nn n
  refine ⟨g0, ?_, h2.symm, ?_, Int.ediv_nonneg hm (Int.le_of_lt g0)⟩
  · by_cases h : n < 0
    · simp only [h, decide_true, sg, if_true, Int.neg_mul, h1]; unfold mag; rw [if_pos h]; omega
    · have e : mag n = n := by rw [mag, if_neg h]
      rw [e] at h1 ⊢
      simp [sg, h]; omega
  · rcases Int.lt_or_le 0 (d / Int.gcd (mag n) d) with h | h
    · exact h
    · have := Int.mul_le_mul_of_nonneg_right h (Int.le_of_lt g0)
      rw [h2] at this; omega
def NewRat (w : World) (v : Value) : Prop := ∀ s m k, v = .agg #[s, m, k] → New w m ∧ New w k
set_option maxHeartbeats 1000000 in
theorem Make_ref {u m : Value} {n d : Int} {L : Nat} {w : World} (hu : IntAt w u n L) (hd : NatAt w m d L) (d0 : 0 < d) (hL : L ≤ 100000) :
    Calls Tryz.prog 157 #[u, m] w fun e w' => ∃ v n' d' g, e = .returned v ∧ Ext w w' ∧ 0 < g ∧ n = n' * g ∧ d = d' * g ∧ 0 < d' ∧ RatAt w' v n' d' L ∧ NewRat w v := by
  obtain ⟨a1, k1, c1, rfl, hm⟩ := hu.form
  obtain ⟨a2, k2, c2, rfl, -⟩ := hd.form
  have HM := Lib.hid hm
  have HD := Lib.hid hd
  obtain ⟨g0, p1, p2', p3, p4⟩ := gcd_parts (n := n) d0
  have P1 := Lib.hid p1
  have P2 := Lib.hid p2'
  clear hu hm hd p1 p2'
  generalize hg : (Int.gcd (mag n) d : Int) = g at *
  have HG := Lib.hid hg
  clear hg
  go_enter Tryz.func157, Tryz.ntmps157
  go_wp2_with fail; refine (NGcd_any (HM.out.ext Ext.q) (HD.out.ext Ext.q) hL).mono ?_; rintro e v1 ⟨q1, rfl, x1, h1⟩; obtain ⟨c1, f1⟩ := x1.rules; have z1 := x1.size; have lq := fun o => c1 (w.heap.size) o (by first | (simp; done) | (simp; omega) | omega); have mq := fun o => f1 (w.heap.size) o (by first | (simp; done) | (simp; omega) | omega); have k1_0_0 := lq 0; have q1_0_0 := mq 0; have k1_0_1 := lq 1; have q1_0_1 := mq 1; clear lq mq; have lq := fun o => c1 (w.heap.size + 1) o (by first | (simp; done) | (simp; omega) | omega); have mq := fun o => f1 (w.heap.size + 1) o (by first | (simp; done) | (simp; omega) | omega); have k1_1_0 := lq 0; have q1_1_0 := mq 0; have k1_1_1 := lq 1; have q1_1_1 := mq 1; have k1_1_2 := lq 2; have q1_1_2 := mq 2; clear lq mq; have z1_0 : w.heap.size < v1.heap.size := (by (try simp at z1); omega); have z1_1 : w.heap.size + 1 < v1.heap.size := (by (try simp at z1); omega); (try simp at z1); clear c1 f1; simp [go_sem, *] at k1_0_0 q1_0_0 k1_0_1 q1_0_1 k1_1_0 q1_1_0 k1_1_1 q1_1_1 k1_1_2 q1_1_2
  rw [HG.out] at h1
  have H1 := Lib.hid h1
  obtain ⟨a3, k3, c3, rfl, -⟩ := h1.form
  clear h1
  go_wp2_with fail; refine (NDivide_new (HM.out.ext Ext.q) H1.out g0 hL).mono ?_; rintro e v2 ⟨q2, r2, rfl, x2, h2, hr2, n2⟩; obtain ⟨c2, f2⟩ := x2.rules; have z2 := x2.size; have lq := fun o => c2 (w.heap.size) o (by first | (simp; done) | (simp; omega) | omega); have mq := fun o => f2 (w.heap.size) o (by first | (simp; done) | (simp; omega) | omega); have k2_0_0 := lq 0; have q2_0_0 := mq 0; have k2_0_1 := lq 1; have q2_0_1 := mq 1; clear lq mq; have lq := fun o => c2 (w.heap.size + 1) o (by first | (simp; done) | (simp; omega) | omega); have mq := fun o => f2 (w.heap.size + 1) o (by first | (simp; done) | (simp; omega) | omega); have k2_1_0 := lq 0; have q2_1_0 := mq 0; have k2_1_1 := lq 1; have q2_1_1 := mq 1; have k2_1_2 := lq 2; have q2_1_2 := mq 2; clear lq mq; have z2_0 : w.heap.size < v2.heap.size := (by (try simp at z2); omega); have z2_1 : w.heap.size + 1 < v2.heap.size := (by (try simp at z2); omega); (try simp at z2); clear c2 f2; simp [go_sem, *] at k2_0_0 q2_0_0 k2_0_1 q2_0_1 k2_1_0 q2_1_0 k2_1_1 q2_1_1 k2_1_2 q2_1_2
  clear hr2
  have H2 := Lib.hid h2
  have N2 := Lib.hid n2
  obtain ⟨a4, k4, c4, rfl, -⟩ := h2.form
  clear h2 n2
  go_wp2_with fail; refine (NDivide_new (HD.out.ext Ext.q) (H1.out.ext Ext.q) g0 hL).mono ?_; rintro e v3 ⟨q3, r3, rfl, x3, h3, hr3, n3⟩; obtain ⟨c3, f3⟩ := x3.rules; have z3 := x3.size; have lq := fun o => c3 (w.heap.size) o (by first | (simp; done) | (simp; omega) | omega); have mq := fun o => f3 (w.heap.size) o (by first | (simp; done) | (simp; omega) | omega); have k3_0_0 := lq 0; have q3_0_0 := mq 0; have k3_0_1 := lq 1; have q3_0_1 := mq 1; clear lq mq; have lq := fun o => c3 (w.heap.size + 1) o (by first | (simp; done) | (simp; omega) | omega); have mq := fun o => f3 (w.heap.size + 1) o (by first | (simp; done) | (simp; omega) | omega); have k3_1_0 := lq 0; have q3_1_0 := mq 0; have k3_1_1 := lq 1; have q3_1_1 := mq 1; have k3_1_2 := lq 2; have q3_1_2 := mq 2; clear lq mq; have z3_0 : w.heap.size < v3.heap.size := (by (try simp at z3); omega); have z3_1 : w.heap.size + 1 < v3.heap.size := (by (try simp at z3); omega); (try simp at z3); clear c3 f3; simp [go_sem, *] at k3_0_0 q3_0_0 k3_0_1 q3_0_1 k3_1_0 q3_1_0 k3_1_1 q3_1_1 k3_1_2 q3_1_2
  clear hr3
  have H3 := Lib.hid h3
  have N3 := Lib.hid n3
  obtain ⟨a5, k5, c5, rfl, -⟩ := h3.form
  clear h3 n3
  go_wp2_with fail; refine (Made_raw (decide (n < 0)) H2.out _).mono ?_; rintro e v4 ⟨rfl, x4⟩; obtain ⟨c4, f4⟩ := x4.rules; have z4 := x4.size; have lq := fun o => c4 (w.heap.size) o (by first | (simp; done) | (simp; omega) | omega); have mq := fun o => f4 (w.heap.size) o (by first | (simp; done) | (simp; omega) | omega); have k4_0_0 := lq 0; have q4_0_0 := mq 0; have k4_0_1 := lq 1; have q4_0_1 := mq 1; clear lq mq; have lq := fun o => c4 (w.heap.size + 1) o (by first | (simp; done) | (simp; omega) | omega); have mq := fun o => f4 (w.heap.size + 1) o (by first | (simp; done) | (simp; omega) | omega); have k4_1_0 := lq 0; have q4_1_0 := mq 0; have k4_1_1 := lq 1; have q4_1_1 := mq 1; have k4_1_2 := lq 2; have q4_1_2 := mq 2; clear lq mq; have z4_0 : w.heap.size < v4.heap.size := (by (try simp at z4); omega); have z4_1 : w.heap.size + 1 < v4.heap.size := (by (try simp at z4); omega); (try simp at z4); clear c4 f4; simp [go_sem, *] at k4_0_0 q4_0_0 k4_0_1 q4_0_1 k4_1_0 q4_1_0 k4_1_1 q4_1_1 k4_1_2 q4_1_2; (try clear k1_0_0); (try clear q1_0_0); (try clear k1_0_1); (try clear q1_0_1); (try clear k1_1_0); (try clear q1_1_0); (try clear k1_1_1); (try clear q1_1_1); (try clear k1_1_2); (try clear q1_1_2)
  go_wp2
  simp [bodyPost, results, Tryz.results157, go_sem, *]
  have x1s := x1.size
  have x2s := x2.size
  simp at x1s
  have O2 := N2.out.off (g := w.heap.size + 1) (by omega)
  have O3 := N3.out.off (g := w.heap.size + 1) (by omega)
  have W2 : New w (.slice a4 k4 c4) := fun b hb => by have := N2.out b hb; omega
  have W3 : New w (.slice a5 k5 c5) := fun b hb => by have := N3.out b hb; omega
  refine ⟨Ext.q, sg (decide (n < 0)) (mag n / g), d / g, g, g0, P1.out, P2.out, p3, ⟨⟨a4, k4, c4, a5, k5, c5, by rw [sg_neg p4], ?_, ?_⟩⟩, fun s m k e => ?_⟩
  · rw [mag_sg p4]; exact (((H2.out.ext Ext.q).off O2).off O2).off O2
  · exact (((H3.out.ext Ext.q).off O3).off O3).off O3
  · simp at e
    rw [← e.2.1, ← e.2.2]; exact ⟨W2, W3⟩
end Go.Proofs.YtkegefnpmijfiaaGreat
namespace Go.Proofs.YtkegefnpmijfiaaGreat
open Go.RowKit
theorem NatAt.alloc' {w : World} {v : Value} {x : Int} {L : Nat} {o : Obj} (h : NatAt w v x L) : NatAt (w.alloc o) v x L := h.ext ((Ext.refl _).alloc _)
theorem NatAt.drew' {w : World} {v : Value} {x : Int} {L : Nat} (h : NatAt w v x L) : NatAt w.drew v x L := h.ext (Ext.refl _).drew
theorem NatAt.drewN' {w : World} {v : Value} {x : Int} {L m : Nat} (h : NatAt w v x L) : NatAt (w.drewN m) v x L := h.ext ((Ext.refl _).drewN _)
theorem RFrom_raw (s : Bool) (a : Option Addr) (k c : Nat) (w : World) :
    Calls Tryz.prog 130 #[.agg #[.bool s, .slice a k c]] w fun e w' => ∃ b l d, e = .returned (.agg #[.bool s, .slice a k c, .slice b l d]) ∧ Ext w w' ∧ NatAt w' (.slice b l d) 1 1 ∧ New w (.slice b l d) := by
  go_enter Tryz.func130, Tryz.ntmps130
  go_wp2_with fail
  go_region_held3 (fun w' => w'.cell? ⟨w.heap.size, 0, none⟩ = some (.bool s) ∧ w'.cell? ⟨w.heap.size, 1, none⟩ = some (.slice a k c) ∧ w.heap.size + 1 < w'.heap.size ∧ Ext w w')
    (refine ⟨?_, ?_, ?_, ?_⟩ <;> first | (simp [go_sem, *]; done) | omega | (simp at z1; omega) | (simp at z2; omega) | (simp at z3; omega) | (simp at z4; omega) | exact Ext.q)
    (first | ((go_at_call 148; refine (NOf_new 1 _ (by omega) (by omega)).mono ?_; rintro e v1 ⟨q1, rfl, x1, h1⟩; obtain ⟨c1, f1⟩ := x1.rules; have z1 := x1.size; have lq := fun o => c1 (w.heap.size) o (by first | (simp; done) | (simp; omega) | omega); have mq := fun o => f1 (w.heap.size) o (by first | (simp; done) | (simp; omega) | omega); have k1_0_0 := lq 0; have q1_0_0 := mq 0; have k1_0_1 := lq 1; have q1_0_1 := mq 1; clear lq mq; have lq := fun o => c1 (w.heap.size + 1) o (by first | (simp; done) | (simp; omega) | omega); have mq := fun o => f1 (w.heap.size + 1) o (by first | (simp; done) | (simp; omega) | omega); have k1_1_0 := lq 0; have q1_1_0 := mq 0; have k1_1_1 := lq 1; have q1_1_1 := mq 1; have k1_1_2 := lq 2; have q1_1_2 := mq 2; clear lq mq; have z1_0 : w.heap.size < v1.heap.size := (by (try simp at z1); omega); have z1_1 : w.heap.size + 1 < v1.heap.size := (by (try simp at z1); omega); (try simp at z1); clear c1 f1; simp [go_sem, *] at k1_0_0 q1_0_0 k1_0_1 q1_0_1 k1_1_0 q1_1_0 k1_1_1 q1_1_1 k1_1_2 q1_1_2); obtain ⟨h1, n1⟩ := h1; have HH := Lib.hid h1; obtain ⟨b, l, d, rfl, -⟩ := h1.form; have HN := Lib.hid n1; clear n1 h1))
  all_goals
    have O1 : Hid (Off (w.heap.size + 1) (.slice b l d)) := Lib.hid (HN.out.off (by simp))
    have NW : Hid (New w (.slice b l d)) := Lib.hid (fun b hb => by have := HN.out b hb; simp at this; omega)
    go_wp2
    simp [bodyPost, results, Tryz.results130, go_sem, *]
    exact ⟨b, l, d, ⟨rfl, rfl, rfl⟩, (((HH.out.ext Ext.q).off O1.out).off O1.out).off O1.out, NW.out⟩
end Go.Proofs.YtkegefnpmijfiaaGreat
namespace Go.Proofs.YtkegefnpmijfiaaGreat
open Go.RowKit
theorem NewRat.mk {w : World} {s m k : Value} (h : New w m) (h' : New w k) : NewRat w (.agg #[s, m, k]) := fun s' m' k' e => by
  simp at e; rw [← e.2.1, ← e.2.2]; exact ⟨h, h'⟩
theorem New.old {v w : World} {m : Value} (h : New v m) (hs : w.heap.size ≤ v.heap.size) : New w m := fun b hb => Nat.le_trans hs (h b hb)
set_option maxHeartbeats 4000000 in
set_option maxRecDepth 100000 in
theorem RPlus_ref {u v : Value} {n1 d1 n2 d2 : Int} {L : Nat} {w : World} (hu : RatAt w u n1 d1 L) (hv : RatAt w v n2 d2 L) (p1 : 0 < d1) (p2 : 0 < d2) (hL : L ≤ 10000) :
    Calls Tryz.prog 199 #[u, v] w fun e w' => ∃ v n' d' g, e = .returned v ∧ Ext w w' ∧ 0 < g ∧ n1 * d2 + n2 * d1 = n' * g ∧ d1 * d2 = d' * g ∧ 0 < d' ∧ RatAt w' v n' d' (2 * L + 1) ∧ NewRat w v := by
  have HU := Lib.hid hu
  have HV := Lib.hid hv
  obtain ⟨a1, k1, c1, b1, l1, e1, rfl, m1, r1⟩ := hu.is
  obtain ⟨a2, k2, c2, b2, l2, e2, rfl, m2, r2⟩ := hv.is
  have N1 := Lib.hid (IntAt.of (w := w) (x := n1) rfl m1)
  have N2 := Lib.hid (IntAt.of (w := w) (x := n2) rfl m2)
  have D1 := Lib.hid r1
  have D2 := Lib.hid r2
  have P := Lib.hid (Int.mul_pos p1 p2)
  clear hu hv m1 m2 r1 r2 p1 p2
  go_enter Tryz.func199, Tryz.ntmps199
  go_wp2_with fail
  go_region_held3 (fun w' => w'.cell? ⟨w.heap.size, 0, none⟩ = some (.bool (decide (n1 < 0))) ∧ w'.cell? ⟨w.heap.size, 1, none⟩ = some (.slice a1 k1 c1) ∧ w'.cell? ⟨w.heap.size, 2, none⟩ = some (.slice b1 l1 e1) ∧ w'.cell? ⟨w.heap.size + 1, 0, none⟩ = some (.bool (decide (n2 < 0))) ∧ w'.cell? ⟨w.heap.size + 1, 1, none⟩ = some (.slice a2 k2 c2) ∧ w'.cell? ⟨w.heap.size + 1, 2, none⟩ = some (.slice b2 l2 e2) ∧ w.heap.size + 2 < w'.heap.size ∧ Ext w w')
    (refine ⟨?_, ?_, ?_, ?_, ?_, ?_, ?_, ?_⟩ <;> first | (simp [go_sem, *]; done) | omega | (simp at z1; omega) | (simp at z2; omega) | (simp at z3; omega) | (simp at z4; omega) | exact Ext.q)
    (first
      | ((go_at_call 249; refine (den_ref (HV.out.ext Ext.q)).mono ?_; rintro e v1 ⟨q1, rfl, x1, h1⟩; obtain ⟨c1, f1⟩ := x1.rules; have z1 := x1.size; have lq := fun o => c1 (w.heap.size) o (by first | (simp; done) | (simp; omega) | omega); have mq := fun o => f1 (w.heap.size) o (by first | (simp; done) | (simp; omega) | omega); have k1_0_0 := lq 0; have q1_0_0 := mq 0; have k1_0_1 := lq 1; have q1_0_1 := mq 1; have k1_0_2 := lq 2; have q1_0_2 := mq 2; clear lq mq; have lq := fun o => c1 (w.heap.size + 1) o (by first | (simp; done) | (simp; omega) | omega); have mq := fun o => f1 (w.heap.size + 1) o (by first | (simp; done) | (simp; omega) | omega); have k1_1_0 := lq 0; have q1_1_0 := mq 0; have k1_1_1 := lq 1; have q1_1_1 := mq 1; have k1_1_2 := lq 2; have q1_1_2 := mq 2; clear lq mq; have lq := fun o => c1 (w.heap.size + 2) o (by first | (simp; done) | (simp; omega) | omega); have mq := fun o => f1 (w.heap.size + 2) o (by first | (simp; done) | (simp; omega) | omega); have k1_2_0 := lq 0; have q1_2_0 := mq 0; have k1_2_1 := lq 1; have q1_2_1 := mq 1; have k1_2_2 := lq 2; have q1_2_2 := mq 2; clear lq mq; have z1_0 : w.heap.size < v1.heap.size := (by (try simp at z1); omega); have z1_1 : w.heap.size + 1 < v1.heap.size := (by (try simp at z1); omega); have z1_2 : w.heap.size + 2 < v1.heap.size := (by (try simp at z1); omega); (try simp at z1); clear c1 f1; simp [go_sem, *] at k1_0_0 q1_0_0 k1_0_1 q1_0_1 k1_0_2 q1_0_2 k1_1_0 q1_1_0 k1_1_1 q1_1_1 k1_1_2 q1_1_2 k1_2_0 q1_2_0 k1_2_1 q1_2_1 k1_2_2 q1_2_2); have H1 := Lib.hid h1; clear h1 HV)
      | ((go_at_call 69; refine (Times_ref (N1.out.ext Ext.q) (H1.out.ext Ext.q) (by omega)).mono ?_; rintro e v2 ⟨q2, rfl, x2, h2⟩; obtain ⟨c2, f2⟩ := x2.rules; have z2 := x2.size; have lq := fun o => c2 (w.heap.size) o (by first | (simp; done) | (simp; omega) | omega); have mq := fun o => f2 (w.heap.size) o (by first | (simp; done) | (simp; omega) | omega); have k2_0_0 := lq 0; have q2_0_0 := mq 0; have k2_0_1 := lq 1; have q2_0_1 := mq 1; have k2_0_2 := lq 2; have q2_0_2 := mq 2; clear lq mq; have lq := fun o => c2 (w.heap.size + 1) o (by first | (simp; done) | (simp; omega) | omega); have mq := fun o => f2 (w.heap.size + 1) o (by first | (simp; done) | (simp; omega) | omega); have k2_1_0 := lq 0; have q2_1_0 := mq 0; have k2_1_1 := lq 1; have q2_1_1 := mq 1; have k2_1_2 := lq 2; have q2_1_2 := mq 2; clear lq mq; have lq := fun o => c2 (w.heap.size + 2) o (by first | (simp; done) | (simp; omega) | omega); have mq := fun o => f2 (w.heap.size + 2) o (by first | (simp; done) | (simp; omega) | omega); have k2_2_0 := lq 0; have q2_2_0 := mq 0; have k2_2_1 := lq 1; have q2_2_1 := mq 1; have k2_2_2 := lq 2; have q2_2_2 := mq 2; clear lq mq; have z2_0 : w.heap.size < v2.heap.size := (by (try simp at z2); omega); have z2_1 : w.heap.size + 1 < v2.heap.size := (by (try simp at z2); omega); have z2_2 : w.heap.size + 2 < v2.heap.size := (by (try simp at z2); omega); (try simp at z2); clear c2 f2; simp [go_sem, *] at k2_0_0 q2_0_0 k2_0_1 q2_0_1 k2_0_2 q2_0_2 k2_1_0 q2_1_0 k2_1_1 q2_1_1 k2_1_2 q2_1_2 k2_2_0 q2_2_0 k2_2_1 q2_2_1 k2_2_2 q2_2_2); have H2 := Lib.hid h2.1; clear h2 N1 H1)
      | ((go_at_call 249; refine (den_ref (HU.out.ext Ext.q)).mono ?_; rintro e v3 ⟨q3, rfl, x3, h3⟩; obtain ⟨c3, f3⟩ := x3.rules; have z3 := x3.size; have lq := fun o => c3 (w.heap.size) o (by first | (simp; done) | (simp; omega) | omega); have mq := fun o => f3 (w.heap.size) o (by first | (simp; done) | (simp; omega) | omega); have k3_0_0 := lq 0; have q3_0_0 := mq 0; have k3_0_1 := lq 1; have q3_0_1 := mq 1; have k3_0_2 := lq 2; have q3_0_2 := mq 2; clear lq mq; have lq := fun o => c3 (w.heap.size + 1) o (by first | (simp; done) | (simp; omega) | omega); have mq := fun o => f3 (w.heap.size + 1) o (by first | (simp; done) | (simp; omega) | omega); have k3_1_0 := lq 0; have q3_1_0 := mq 0; have k3_1_1 := lq 1; have q3_1_1 := mq 1; have k3_1_2 := lq 2; have q3_1_2 := mq 2; clear lq mq; have lq := fun o => c3 (w.heap.size + 2) o (by first | (simp; done) | (simp; omega) | omega); have mq := fun o => f3 (w.heap.size + 2) o (by first | (simp; done) | (simp; omega) | omega); have k3_2_0 := lq 0; have q3_2_0 := mq 0; have k3_2_1 := lq 1; have q3_2_1 := mq 1; have k3_2_2 := lq 2; have q3_2_2 := mq 2; clear lq mq; have z3_0 : w.heap.size < v3.heap.size := (by (try simp at z3); omega); have z3_1 : w.heap.size + 1 < v3.heap.size := (by (try simp at z3); omega); have z3_2 : w.heap.size + 2 < v3.heap.size := (by (try simp at z3); omega); (try simp at z3); clear c3 f3; simp [go_sem, *] at k3_0_0 q3_0_0 k3_0_1 q3_0_1 k3_0_2 q3_0_2 k3_1_0 q3_1_0 k3_1_1 q3_1_1 k3_1_2 q3_1_2 k3_2_0 q3_2_0 k3_2_1 q3_2_1 k3_2_2 q3_2_2); have H3 := Lib.hid h3; clear h3 HU)
      | ((go_at_call 69; refine (Times_ref (N2.out.ext Ext.q) (H3.out.ext Ext.q) (by omega)).mono ?_; rintro e v4 ⟨q4, rfl, x4, h4⟩; obtain ⟨c4, f4⟩ := x4.rules; have z4 := x4.size; have lq := fun o => c4 (w.heap.size) o (by first | (simp; done) | (simp; omega) | omega); have mq := fun o => f4 (w.heap.size) o (by first | (simp; done) | (simp; omega) | omega); have k4_0_0 := lq 0; have q4_0_0 := mq 0; have k4_0_1 := lq 1; have q4_0_1 := mq 1; have k4_0_2 := lq 2; have q4_0_2 := mq 2; clear lq mq; have lq := fun o => c4 (w.heap.size + 1) o (by first | (simp; done) | (simp; omega) | omega); have mq := fun o => f4 (w.heap.size + 1) o (by first | (simp; done) | (simp; omega) | omega); have k4_1_0 := lq 0; have q4_1_0 := mq 0; have k4_1_1 := lq 1; have q4_1_1 := mq 1; have k4_1_2 := lq 2; have q4_1_2 := mq 2; clear lq mq; have lq := fun o => c4 (w.heap.size + 2) o (by first | (simp; done) | (simp; omega) | omega); have mq := fun o => f4 (w.heap.size + 2) o (by first | (simp; done) | (simp; omega) | omega); have k4_2_0 := lq 0; have q4_2_0 := mq 0; have k4_2_1 := lq 1; have q4_2_1 := mq 1; have k4_2_2 := lq 2; have q4_2_2 := mq 2; clear lq mq; have z4_0 : w.heap.size < v4.heap.size := (by (try simp at z4); omega); have z4_1 : w.heap.size + 1 < v4.heap.size := (by (try simp at z4); omega); have z4_2 : w.heap.size + 2 < v4.heap.size := (by (try simp at z4); omega); (try simp at z4); clear c4 f4; simp [go_sem, *] at k4_0_0 q4_0_0 k4_0_1 q4_0_1 k4_0_2 q4_0_2 k4_1_0 q4_1_0 k4_1_1 q4_1_1 k4_1_2 q4_1_2 k4_2_0 q4_2_0 k4_2_1 q4_2_1 k4_2_2 q4_2_2); have H4 := Lib.hid h4.1; clear h4 N2 H3)
      | ((go_at_call 68; refine (Plus_ref (H2.out.ext Ext.q) (H4.out.ext Ext.q) (by omega)).mono ?_; rintro e v5 ⟨q5, rfl, x5, h5⟩; obtain ⟨c5, f5⟩ := x5.rules; have z5 := x5.size; have lq := fun o => c5 (w.heap.size) o (by first | (simp; done) | (simp; omega) | omega); have mq := fun o => f5 (w.heap.size) o (by first | (simp; done) | (simp; omega) | omega); have k5_0_0 := lq 0; have q5_0_0 := mq 0; have k5_0_1 := lq 1; have q5_0_1 := mq 1; have k5_0_2 := lq 2; have q5_0_2 := mq 2; clear lq mq; have lq := fun o => c5 (w.heap.size + 1) o (by first | (simp; done) | (simp; omega) | omega); have mq := fun o => f5 (w.heap.size + 1) o (by first | (simp; done) | (simp; omega) | omega); have k5_1_0 := lq 0; have q5_1_0 := mq 0; have k5_1_1 := lq 1; have q5_1_1 := mq 1; have k5_1_2 := lq 2; have q5_1_2 := mq 2; clear lq mq; have lq := fun o => c5 (w.heap.size + 2) o (by first | (simp; done) | (simp; omega) | omega); have mq := fun o => f5 (w.heap.size + 2) o (by first | (simp; done) | (simp; omega) | omega); have k5_2_0 := lq 0; have q5_2_0 := mq 0; have k5_2_1 := lq 1; have q5_2_1 := mq 1; have k5_2_2 := lq 2; have q5_2_2 := mq 2; clear lq mq; have z5_0 : w.heap.size < v5.heap.size := (by (try simp at z5); omega); have z5_1 : w.heap.size + 1 < v5.heap.size := (by (try simp at z5); omega); have z5_2 : w.heap.size + 2 < v5.heap.size := (by (try simp at z5); omega); (try simp at z5); clear c5 f5; simp [go_sem, *] at k5_0_0 q5_0_0 k5_0_1 q5_0_1 k5_0_2 q5_0_2 k5_1_0 q5_1_0 k5_1_1 q5_1_1 k5_1_2 q5_1_2 k5_2_0 q5_2_0 k5_2_1 q5_2_1 k5_2_2 q5_2_2); have H5 := Lib.hid h5.1; clear h5 H2 H4)
      | ((go_at_call 153; refine (NTimes_any (D1.out.ext Ext.q) (D2.out.ext Ext.q) (by omega)).mono ?_; rintro e v6 ⟨q6, rfl, x6, h6⟩; obtain ⟨c6, f6⟩ := x6.rules; have z6 := x6.size; have lq := fun o => c6 (w.heap.size) o (by first | (simp; done) | (simp; omega) | omega); have mq := fun o => f6 (w.heap.size) o (by first | (simp; done) | (simp; omega) | omega); have k6_0_0 := lq 0; have q6_0_0 := mq 0; have k6_0_1 := lq 1; have q6_0_1 := mq 1; have k6_0_2 := lq 2; have q6_0_2 := mq 2; clear lq mq; have lq := fun o => c6 (w.heap.size + 1) o (by first | (simp; done) | (simp; omega) | omega); have mq := fun o => f6 (w.heap.size + 1) o (by first | (simp; done) | (simp; omega) | omega); have k6_1_0 := lq 0; have q6_1_0 := mq 0; have k6_1_1 := lq 1; have q6_1_1 := mq 1; have k6_1_2 := lq 2; have q6_1_2 := mq 2; clear lq mq; have lq := fun o => c6 (w.heap.size + 2) o (by first | (simp; done) | (simp; omega) | omega); have mq := fun o => f6 (w.heap.size + 2) o (by first | (simp; done) | (simp; omega) | omega); have k6_2_0 := lq 0; have q6_2_0 := mq 0; have k6_2_1 := lq 1; have q6_2_1 := mq 1; have k6_2_2 := lq 2; have q6_2_2 := mq 2; clear lq mq; have z6_0 : w.heap.size < v6.heap.size := (by (try simp at z6); omega); have z6_1 : w.heap.size + 1 < v6.heap.size := (by (try simp at z6); omega); have z6_2 : w.heap.size + 2 < v6.heap.size := (by (try simp at z6); omega); (try simp at z6); clear c6 f6; simp [go_sem, *] at k6_0_0 q6_0_0 k6_0_1 q6_0_1 k6_0_2 q6_0_2 k6_1_0 q6_1_0 k6_1_1 q6_1_1 k6_1_2 q6_1_2 k6_2_0 q6_2_0 k6_2_1 q6_2_1 k6_2_2 q6_2_2); have H6 := Lib.hid (h6.mono (show 2 * L ≤ 2 * L + 1 by omega)); clear h6)
      | (go_at_call 157; refine (Make_ref (H5.out.ext Ext.q) (H6.out.ext Ext.q) P.out (by omega)).mono ?_; rintro e v7 ⟨q7, n', d', g, rfl, x7, g0, e1, e2, d0, h7, nr⟩; obtain ⟨c7, f7⟩ := x7.rules; have z7 := x7.size; have lq := fun o => c7 (w.heap.size) o (by first | (simp; done) | (simp; omega) | omega); have mq := fun o => f7 (w.heap.size) o (by first | (simp; done) | (simp; omega) | omega); have k7_0_0 := lq 0; have q7_0_0 := mq 0; have k7_0_1 := lq 1; have q7_0_1 := mq 1; have k7_0_2 := lq 2; have q7_0_2 := mq 2; clear lq mq; have lq := fun o => c7 (w.heap.size + 1) o (by first | (simp; done) | (simp; omega) | omega); have mq := fun o => f7 (w.heap.size + 1) o (by first | (simp; done) | (simp; omega) | omega); have k7_1_0 := lq 0; have q7_1_0 := mq 0; have k7_1_1 := lq 1; have q7_1_1 := mq 1; have k7_1_2 := lq 2; have q7_1_2 := mq 2; clear lq mq; have lq := fun o => c7 (w.heap.size + 2) o (by first | (simp; done) | (simp; omega) | omega); have mq := fun o => f7 (w.heap.size + 2) o (by first | (simp; done) | (simp; omega) | omega); have k7_2_0 := lq 0; have q7_2_0 := mq 0; have k7_2_1 := lq 1; have q7_2_1 := mq 1; have k7_2_2 := lq 2; have q7_2_2 := mq 2; clear lq mq; have z7_0 : w.heap.size < v7.heap.size := (by (try simp at z7); omega); have z7_1 : w.heap.size + 1 < v7.heap.size := (by (try simp at z7); omega); have z7_2 : w.heap.size + 2 < v7.heap.size := (by (try simp at z7); omega); (try simp at z7); clear c7 f7; simp [go_sem, *] at k7_0_0 q7_0_0 k7_0_1 q7_0_1 k7_0_2 q7_0_2 k7_1_0 q7_1_0 k7_1_1 q7_1_1 k7_1_2 q7_1_2 k7_2_0 q7_2_0 k7_2_1 q7_2_1 k7_2_2 q7_2_2; obtain ⟨a7, k7, c7, b7, l7, f7, rfl, s1, s2⟩ := h7.is; obtain ⟨nw1, nw2⟩ := nr _ _ _ rfl; have HE1 := Lib.hid e1; have HE2 := Lib.hid e2; have S1 := Lib.hid s1; have S2 := Lib.hid s2; have W1 := Lib.hid nw1; have W2 := Lib.hid nw2; clear e1 e2 h7 s1 s2 nr nw1 nw2))
  all_goals
    have O1 : Hid (Off (w.heap.size + 1 + 1) (.slice a7 k7 c7)) := Lib.hid (W1.out.off (by first | (simp; done) | (simp; omega) | omega))
    have O2 : Hid (Off (w.heap.size + 1 + 1) (.slice b7 l7 f7)) := Lib.hid (W2.out.off (by first | (simp; done) | (simp; omega) | omega))
    go_wp2
    simp [bodyPost, results, Tryz.results199, go_sem, *]
    have Z : w.heap.size ≤ v6.heap.size := by omega
    have fin : 0 < g ∧ n1 * d2 + n2 * d1 = n' * g ∧ d1 * d2 = d' * g ∧ 0 < d' := ⟨g0, HE1.out, HE2.out, d0⟩
    have nr : NewRat w (.agg #[.bool (decide (n' < 0)), .slice a7 k7 c7, .slice b7 l7 f7]) := NewRat.mk (W1.out.old Z) (W2.out.old Z)
    first
      | exact ⟨n', d', g, fin.1, fin.2.1, fin.2.2.1, fin.2.2.2, ⟨⟨a7, k7, c7, b7, l7, f7, rfl, (by repeat (first | with_reducible exact S1.out | with_reducible refine NatAt.alloc' ?_ | with_reducible refine NatAt.drew' ?_ | with_reducible refine NatAt.drewN' ?_ | with_reducible refine NatAt.off ?_ O1.out | with_reducible refine NatAt.ext ?_ x1 | with_reducible refine NatAt.ext ?_ x2 | with_reducible refine NatAt.ext ?_ x3 | with_reducible refine NatAt.ext ?_ x4 | with_reducible refine NatAt.ext ?_ x5 | with_reducible refine NatAt.ext ?_ x6 | with_reducible refine NatAt.ext ?_ x7)), (by repeat (first | with_reducible exact S2.out | with_reducible refine NatAt.alloc' ?_ | with_reducible refine NatAt.drew' ?_ | with_reducible refine NatAt.drewN' ?_ | with_reducible refine NatAt.off ?_ O2.out | with_reducible refine NatAt.ext ?_ x1 | with_reducible refine NatAt.ext ?_ x2 | with_reducible refine NatAt.ext ?_ x3 | with_reducible refine NatAt.ext ?_ x4 | with_reducible refine NatAt.ext ?_ x5 | with_reducible refine NatAt.ext ?_ x6 | with_reducible refine NatAt.ext ?_ x7))⟩⟩, nr⟩
      | exact ⟨Ext.q, n', d', g, fin.1, fin.2.1, fin.2.2.1, fin.2.2.2, ⟨⟨a7, k7, c7, b7, l7, f7, rfl, (by repeat (first | with_reducible exact S1.out | with_reducible refine NatAt.alloc' ?_ | with_reducible refine NatAt.drew' ?_ | with_reducible refine NatAt.drewN' ?_ | with_reducible refine NatAt.off ?_ O1.out | with_reducible refine NatAt.ext ?_ x1 | with_reducible refine NatAt.ext ?_ x2 | with_reducible refine NatAt.ext ?_ x3 | with_reducible refine NatAt.ext ?_ x4 | with_reducible refine NatAt.ext ?_ x5 | with_reducible refine NatAt.ext ?_ x6 | with_reducible refine NatAt.ext ?_ x7)), (by repeat (first | with_reducible exact S2.out | with_reducible refine NatAt.alloc' ?_ | with_reducible refine NatAt.drew' ?_ | with_reducible refine NatAt.drewN' ?_ | with_reducible refine NatAt.off ?_ O2.out | with_reducible refine NatAt.ext ?_ x1 | with_reducible refine NatAt.ext ?_ x2 | with_reducible refine NatAt.ext ?_ x3 | with_reducible refine NatAt.ext ?_ x4 | with_reducible refine NatAt.ext ?_ x5 | with_reducible refine NatAt.ext ?_ x6 | with_reducible refine NatAt.ext ?_ x7))⟩⟩, nr⟩
set_option maxHeartbeats 4000000 in
set_option maxRecDepth 100000 in
theorem RCmp_ref {u v : Value} {n1 d1 n2 d2 : Int} {L : Nat} {w : World} (hu : RatAt w u n1 d1 L) (hv : RatAt w v n2 d2 L) (hL : L ≤ 10000) :
    Calls Tryz.prog 250 #[u, v] w fun e w' => e = .returned (.int .i64 (cmpI (n1 * d2) (n2 * d1))) ∧ Ext w w' := by
  have HU := Lib.hid hu
  have HV := Lib.hid hv
  obtain ⟨a1, k1, c1, b1, l1, e1, rfl, m1, r1⟩ := hu.is
  obtain ⟨a2, k2, c2, b2, l2, e2, rfl, m2, r2⟩ := hv.is
  have N1 := Lib.hid (IntAt.of (w := w) (x := n1) rfl m1)
  have N2 := Lib.hid (IntAt.of (w := w) (x := n2) rfl m2)
  clear hu hv m1 m2 r1 r2
  go_enter Tryz.func250, Tryz.ntmps250
  go_wp2_with fail
  go_region_held3 (fun w' => w'.cell? ⟨w.heap.size, 0, none⟩ = some (.bool (decide (n1 < 0))) ∧ w'.cell? ⟨w.heap.size, 1, none⟩ = some (.slice a1 k1 c1) ∧ w'.cell? ⟨w.heap.size, 2, none⟩ = some (.slice b1 l1 e1) ∧ w'.cell? ⟨w.heap.size + 1, 0, none⟩ = some (.bool (decide (n2 < 0))) ∧ w'.cell? ⟨w.heap.size + 1, 1, none⟩ = some (.slice a2 k2 c2) ∧ w'.cell? ⟨w.heap.size + 1, 2, none⟩ = some (.slice b2 l2 e2) ∧ w.heap.size + 1 < w'.heap.size ∧ Ext w w')
    (refine ⟨?_, ?_, ?_, ?_, ?_, ?_, ?_, ?_⟩ <;> first | (simp [go_sem, *]; done) | omega | (simp at z1; omega) | (simp at z2; omega) | (simp at z3; omega) | (simp at z4; omega) | exact Ext.q)
    (first
      | ((go_at_call 249; refine (den_ref (HV.out.ext Ext.q)).mono ?_; rintro e v1 ⟨q1, rfl, x1, h1⟩; obtain ⟨c1, f1⟩ := x1.rules; have z1 := x1.size; have lq := fun o => c1 (w.heap.size) o (by first | (simp; done) | (simp; omega) | omega); have mq := fun o => f1 (w.heap.size) o (by first | (simp; done) | (simp; omega) | omega); have k1_0_0 := lq 0; have q1_0_0 := mq 0; have k1_0_1 := lq 1; have q1_0_1 := mq 1; have k1_0_2 := lq 2; have q1_0_2 := mq 2; clear lq mq; have lq := fun o => c1 (w.heap.size + 1) o (by first | (simp; done) | (simp; omega) | omega); have mq := fun o => f1 (w.heap.size + 1) o (by first | (simp; done) | (simp; omega) | omega); have k1_1_0 := lq 0; have q1_1_0 := mq 0; have k1_1_1 := lq 1; have q1_1_1 := mq 1; have k1_1_2 := lq 2; have q1_1_2 := mq 2; clear lq mq; have z1_0 : w.heap.size < v1.heap.size := (by (try simp at z1); omega); have z1_1 : w.heap.size + 1 < v1.heap.size := (by (try simp at z1); omega); (try simp at z1); clear c1 f1; simp [go_sem, *] at k1_0_0 q1_0_0 k1_0_1 q1_0_1 k1_0_2 q1_0_2 k1_1_0 q1_1_0 k1_1_1 q1_1_1 k1_1_2 q1_1_2); have H1 := Lib.hid h1; clear h1 HV)
      | ((go_at_call 69; refine (Times_ref (N1.out.ext Ext.q) (H1.out.ext Ext.q) (by omega)).mono ?_; rintro e v2 ⟨q2, rfl, x2, h2⟩; obtain ⟨c2, f2⟩ := x2.rules; have z2 := x2.size; have lq := fun o => c2 (w.heap.size) o (by first | (simp; done) | (simp; omega) | omega); have mq := fun o => f2 (w.heap.size) o (by first | (simp; done) | (simp; omega) | omega); have k2_0_0 := lq 0; have q2_0_0 := mq 0; have k2_0_1 := lq 1; have q2_0_1 := mq 1; have k2_0_2 := lq 2; have q2_0_2 := mq 2; clear lq mq; have lq := fun o => c2 (w.heap.size + 1) o (by first | (simp; done) | (simp; omega) | omega); have mq := fun o => f2 (w.heap.size + 1) o (by first | (simp; done) | (simp; omega) | omega); have k2_1_0 := lq 0; have q2_1_0 := mq 0; have k2_1_1 := lq 1; have q2_1_1 := mq 1; have k2_1_2 := lq 2; have q2_1_2 := mq 2; clear lq mq; have z2_0 : w.heap.size < v2.heap.size := (by (try simp at z2); omega); have z2_1 : w.heap.size + 1 < v2.heap.size := (by (try simp at z2); omega); (try simp at z2); clear c2 f2; simp [go_sem, *] at k2_0_0 q2_0_0 k2_0_1 q2_0_1 k2_0_2 q2_0_2 k2_1_0 q2_1_0 k2_1_1 q2_1_1 k2_1_2 q2_1_2); have H2 := Lib.hid h2.1; clear h2 N1 H1)
      | ((go_at_call 249; refine (den_ref (HU.out.ext Ext.q)).mono ?_; rintro e v3 ⟨q3, rfl, x3, h3⟩; obtain ⟨c3, f3⟩ := x3.rules; have z3 := x3.size; have lq := fun o => c3 (w.heap.size) o (by first | (simp; done) | (simp; omega) | omega); have mq := fun o => f3 (w.heap.size) o (by first | (simp; done) | (simp; omega) | omega); have k3_0_0 := lq 0; have q3_0_0 := mq 0; have k3_0_1 := lq 1; have q3_0_1 := mq 1; have k3_0_2 := lq 2; have q3_0_2 := mq 2; clear lq mq; have lq := fun o => c3 (w.heap.size + 1) o (by first | (simp; done) | (simp; omega) | omega); have mq := fun o => f3 (w.heap.size + 1) o (by first | (simp; done) | (simp; omega) | omega); have k3_1_0 := lq 0; have q3_1_0 := mq 0; have k3_1_1 := lq 1; have q3_1_1 := mq 1; have k3_1_2 := lq 2; have q3_1_2 := mq 2; clear lq mq; have z3_0 : w.heap.size < v3.heap.size := (by (try simp at z3); omega); have z3_1 : w.heap.size + 1 < v3.heap.size := (by (try simp at z3); omega); (try simp at z3); clear c3 f3; simp [go_sem, *] at k3_0_0 q3_0_0 k3_0_1 q3_0_1 k3_0_2 q3_0_2 k3_1_0 q3_1_0 k3_1_1 q3_1_1 k3_1_2 q3_1_2); have H3 := Lib.hid h3; clear h3 HU)
      | ((go_at_call 69; refine (Times_ref (N2.out.ext Ext.q) (H3.out.ext Ext.q) (by omega)).mono ?_; rintro e v4 ⟨q4, rfl, x4, h4⟩; obtain ⟨c4, f4⟩ := x4.rules; have z4 := x4.size; have lq := fun o => c4 (w.heap.size) o (by first | (simp; done) | (simp; omega) | omega); have mq := fun o => f4 (w.heap.size) o (by first | (simp; done) | (simp; omega) | omega); have k4_0_0 := lq 0; have q4_0_0 := mq 0; have k4_0_1 := lq 1; have q4_0_1 := mq 1; have k4_0_2 := lq 2; have q4_0_2 := mq 2; clear lq mq; have lq := fun o => c4 (w.heap.size + 1) o (by first | (simp; done) | (simp; omega) | omega); have mq := fun o => f4 (w.heap.size + 1) o (by first | (simp; done) | (simp; omega) | omega); have k4_1_0 := lq 0; have q4_1_0 := mq 0; have k4_1_1 := lq 1; have q4_1_1 := mq 1; have k4_1_2 := lq 2; have q4_1_2 := mq 2; clear lq mq; have z4_0 : w.heap.size < v4.heap.size := (by (try simp at z4); omega); have z4_1 : w.heap.size + 1 < v4.heap.size := (by (try simp at z4); omega); (try simp at z4); clear c4 f4; simp [go_sem, *] at k4_0_0 q4_0_0 k4_0_1 q4_0_1 k4_0_2 q4_0_2 k4_1_0 q4_1_0 k4_1_1 q4_1_1 k4_1_2 q4_1_2); have H4 := Lib.hid h4.1; clear h4 N2 H3)
      | (go_at_call 71; refine (Cmp_ref (H2.out.ext Ext.q) (H4.out.ext Ext.q) (by omega)).mono ?_; rintro e v5 ⟨rfl, x5⟩; obtain ⟨c5, f5⟩ := x5.rules; have z5 := x5.size; have lq := fun o => c5 (w.heap.size) o (by first | (simp; done) | (simp; omega) | omega); have mq := fun o => f5 (w.heap.size) o (by first | (simp; done) | (simp; omega) | omega); have k5_0_0 := lq 0; have q5_0_0 := mq 0; have k5_0_1 := lq 1; have q5_0_1 := mq 1; have k5_0_2 := lq 2; have q5_0_2 := mq 2; clear lq mq; have lq := fun o => c5 (w.heap.size + 1) o (by first | (simp; done) | (simp; omega) | omega); have mq := fun o => f5 (w.heap.size + 1) o (by first | (simp; done) | (simp; omega) | omega); have k5_1_0 := lq 0; have q5_1_0 := mq 0; have k5_1_1 := lq 1; have q5_1_1 := mq 1; have k5_1_2 := lq 2; have q5_1_2 := mq 2; clear lq mq; have z5_0 : w.heap.size < v5.heap.size := (by (try simp at z5); omega); have z5_1 : w.heap.size + 1 < v5.heap.size := (by (try simp at z5); omega); (try simp at z5); clear c5 f5; simp [go_sem, *] at k5_0_0 q5_0_0 k5_0_1 q5_0_1 k5_0_2 q5_0_2 k5_1_0 q5_1_0 k5_1_1 q5_1_1 k5_1_2 q5_1_2))
  all_goals
    go_wp2
    go_ret
    exact ⟨rfl, Ext.q⟩
end Go.Proofs.YtkegefnpmijfiaaGreat
