/- ref90: Int, first part. -/
import Derived.Test.YtielcbpjnjdlmaaNGcd
import Derived.Test.YtielcbpjnjdlmaaWide
namespace Go.Proofs.Ytielcbpjnjdlmaa
open Go.RowKit
/-- A whole number of the reference, as a world holds it. -/
structure IntAt (w : World) (v : Value) (x : Int) (L : Nat) : Prop where
  is : ∃ m, v = .agg #[.bool (decide (x < 0)), m] ∧ NatAt w m (mag x) L
theorem IntAt.ext {w w' : World} {v : Value} {x : Int} {L : Nat} (h : IntAt w v x L) (e : Ext w w') : IntAt w' v x L := by
  obtain ⟨m, h1, h2⟩ := h.is; exact ⟨⟨m, h1, h2.ext e⟩⟩
theorem IntAt.mono {w : World} {v : Value} {x : Int} {L L' : Nat} (h : IntAt w v x L) (hl : L ≤ L') : IntAt w v x L' := by
  obtain ⟨m, h1, h2⟩ := h.is; exact ⟨⟨m, h1, h2.mono hl⟩⟩
theorem sg_neg {neg : Bool} {n : Int} (h : 0 ≤ n) : decide (sg neg n < 0) = (neg && decide (0 < n)) := by
  cases neg <;> simp [sg] <;> omega
theorem mag_sg {neg : Bool} {n : Int} (h : 0 ≤ n) : mag (sg neg n) = n := by
  unfold mag sg; cases neg <;> simp <;> omega
theorem sg_mag (x : Int) : sg (decide (x < 0)) (mag x) = x := by
  unfold mag sg; by_cases h : x < 0 <;> simp [h]
theorem mag_nn (x : Int) : 0 ≤ mag x := by unfold mag; split <;> omega
theorem Made_raw (neg : Bool) {m : Value} {n : Int} {L : Nat} {w : World} (h : NatAt w m n L) (u : World) :
    Calls Try.prog 98 #[.bool neg, m] u fun e w' => e = .returned (.agg #[.bool (neg && decide (0 < n)), m]) ∧ Ext u w' := by
  obtain ⟨a, k, cap, rfl, hk, z1, z2⟩ := h.form
  clear h
  rcases Nat.eq_zero_or_pos k with hk0 | hk0
  · obtain rfl := z1 hk0
    subst hk0
    clear z1 z2
    cases neg
    all_goals
      go_enter Try.func98, Try.ntmps98
      go_wp2
      simp [bodyPost, results, Try.results98, go_sem]
      exact (by repeat (first | with_reducible exact Ext.refl _ | with_reducible apply Ext.drew | with_reducible apply Ext.drewN | with_reducible apply Ext.alloc | ((with_reducible refine Ext.setCell ?_ ?_ _); rotate_left; focus (first | (simp; done) | (simp; omega) | omega)) | with_reducible refine Ext.tr ?_ x1 | with_reducible refine Ext.tr ?_ x2 | with_reducible refine Ext.tr ?_ x3 | with_reducible refine Ext.tr ?_ x4 | with_reducible refine Ext.tr ?_ x5 | with_reducible refine Ext.tr ?_ x6 | with_reducible refine Ext.tr ?_ x7 | with_reducible refine Ext.tr ?_ x8 | with_reducible refine Ext.tr ?_ x9 | with_reducible refine Ext.tr ?_ xa | with_reducible refine Ext.tr ?_ xb | with_reducible refine Ext.tr ?_ xc | with_reducible refine Ext.tr ?_ xd | with_reducible refine Ext.tr ?_ xe | with_reducible refine Ext.tr ?_ xf | with_reducible refine Ext.tr ?_ xg | with_reducible refine Ext.tr ?_ hx | with_reducible refine Ext.tr ?_ hext | with_reducible assumption))
  · have hn : decide (0 < n) = true := by simp [z2 hk0]
    have kk : (0 : Int) < (k : Int) := by omega
    rw [hn]
    clear z1 z2 hn
    cases neg
    all_goals
      go_enter Try.func98, Try.ntmps98
      go_wp2
      simp [bodyPost, results, Try.results98, go_sem]
      exact (by repeat (first | with_reducible exact Ext.refl _ | with_reducible apply Ext.drew | with_reducible apply Ext.drewN | with_reducible apply Ext.alloc | ((with_reducible refine Ext.setCell ?_ ?_ _); rotate_left; focus (first | (simp; done) | (simp; omega) | omega)) | with_reducible refine Ext.tr ?_ x1 | with_reducible refine Ext.tr ?_ x2 | with_reducible refine Ext.tr ?_ x3 | with_reducible refine Ext.tr ?_ x4 | with_reducible refine Ext.tr ?_ x5 | with_reducible refine Ext.tr ?_ x6 | with_reducible refine Ext.tr ?_ x7 | with_reducible refine Ext.tr ?_ x8 | with_reducible refine Ext.tr ?_ x9 | with_reducible refine Ext.tr ?_ xa | with_reducible refine Ext.tr ?_ xb | with_reducible refine Ext.tr ?_ xc | with_reducible refine Ext.tr ?_ xd | with_reducible refine Ext.tr ?_ xe | with_reducible refine Ext.tr ?_ xf | with_reducible refine Ext.tr ?_ xg | with_reducible refine Ext.tr ?_ hx | with_reducible refine Ext.tr ?_ hext | with_reducible assumption))
theorem Made_any (neg : Bool) {m : Value} {n : Int} {L : Nat} {w : World} (h : NatAt w m n L) :
    Calls Try.prog 98 #[.bool neg, m] w fun e w' => ∃ v, e = .returned v ∧ Ext w w' ∧ IntAt w' v (sg neg n) L :=
  (Made_raw neg h w).mono (by
    rintro e w' ⟨rfl, x⟩
    exact ⟨_, rfl, x, ⟨⟨m, by rw [sg_neg h.nn], by rw [mag_sg h.nn]; exact h.ext x⟩⟩⟩)
theorem sg_not (x : Int) : sg (!decide (x < 0)) (mag x) = -x := by
  unfold mag sg; by_cases h : x < 0 <;> simp [h]
theorem Neg_ref {v : Value} {x : Int} {L : Nat} {w : World} (h : IntAt w v x L) :
    Calls Try.prog 97 #[v] w fun e w' => ∃ v', e = .returned v' ∧ Ext w w' ∧ IntAt w' v' (-x) L := by
  obtain ⟨m, rfl, hm⟩ := h.is
  obtain ⟨a, k, cap, rfl, -⟩ := hm.form
  have R := Lib.hid (fun u => Made_raw (!decide (x < 0)) hm u)
  have e1 : (!decide (x < 0) && decide (0 < mag x)) = decide (-x < 0) := by unfold mag; by_cases h : x < 0 <;> simp [h] <;> omega
  have e2 : mag (-x) = mag x := by unfold mag; split <;> split <;> omega
  have E1 := Lib.hid e1
  have E2 := Lib.hid e2
  have HM := Lib.hid hm
  clear h hm e1 e2
  go_enter Try.func97, Try.ntmps97
  go_wp2_with fail; refine (R.out _).mono ?_; rintro e v1 ⟨rfl, x1⟩; obtain ⟨c1, f1⟩ := x1.rules; have z1 := x1.size; have k1_0_0 := c1 (w.heap.size) 0 (by first | (simp; done) | (simp; omega) | omega); have q1_0_0 := f1 (w.heap.size) 0 (by first | (simp; done) | (simp; omega) | omega); have k1_0_1 := c1 (w.heap.size) 1 (by first | (simp; done) | (simp; omega) | omega); have q1_0_1 := f1 (w.heap.size) 1 (by first | (simp; done) | (simp; omega) | omega); have k1_1_0 := c1 (w.heap.size + 1) 0 (by first | (simp; done) | (simp; omega) | omega); have q1_1_0 := f1 (w.heap.size + 1) 0 (by first | (simp; done) | (simp; omega) | omega); have k1_1_1 := c1 (w.heap.size + 1) 1 (by first | (simp; done) | (simp; omega) | omega); have q1_1_1 := f1 (w.heap.size + 1) 1 (by first | (simp; done) | (simp; omega) | omega); have z1_0 : w.heap.size < v1.heap.size := (by (try simp at z1); omega); have z1_1 : w.heap.size + 1 < v1.heap.size := (by (try simp at z1); omega); (try simp at z1); clear c1 f1; simp [go_sem, *] at k1_0_0 q1_0_0 k1_0_1 q1_0_1 k1_1_0 q1_1_0 k1_1_1 q1_1_1
  go_wp2
  simp [bodyPost, results, Try.results97, go_sem, *]
  refine ⟨(by repeat (first | with_reducible exact Ext.refl _ | with_reducible apply Ext.drew | with_reducible apply Ext.drewN | with_reducible apply Ext.alloc | ((with_reducible refine Ext.setCell ?_ ?_ _); rotate_left; focus (first | (simp; done) | (simp; omega) | omega)) | with_reducible refine Ext.tr ?_ x1 | with_reducible refine Ext.tr ?_ x2 | with_reducible refine Ext.tr ?_ x3 | with_reducible refine Ext.tr ?_ x4 | with_reducible refine Ext.tr ?_ x5 | with_reducible refine Ext.tr ?_ x6 | with_reducible refine Ext.tr ?_ x7 | with_reducible refine Ext.tr ?_ x8 | with_reducible refine Ext.tr ?_ x9 | with_reducible refine Ext.tr ?_ xa | with_reducible refine Ext.tr ?_ xb | with_reducible refine Ext.tr ?_ xc | with_reducible refine Ext.tr ?_ xd | with_reducible refine Ext.tr ?_ xe | with_reducible refine Ext.tr ?_ xf | with_reducible refine Ext.tr ?_ xg | with_reducible refine Ext.tr ?_ hx | with_reducible refine Ext.tr ?_ hext | with_reducible assumption)), ⟨⟨_, by rw [← E1.out], by rw [E2.out]; exact HM.out.ext (by repeat (first | with_reducible exact Ext.refl _ | with_reducible apply Ext.drew | with_reducible apply Ext.drewN | with_reducible apply Ext.alloc | ((with_reducible refine Ext.setCell ?_ ?_ _); rotate_left; focus (first | (simp; done) | (simp; omega) | omega)) | with_reducible refine Ext.tr ?_ x1 | with_reducible refine Ext.tr ?_ x2 | with_reducible refine Ext.tr ?_ x3 | with_reducible refine Ext.tr ?_ x4 | with_reducible refine Ext.tr ?_ x5 | with_reducible refine Ext.tr ?_ x6 | with_reducible refine Ext.tr ?_ x7 | with_reducible refine Ext.tr ?_ x8 | with_reducible refine Ext.tr ?_ x9 | with_reducible refine Ext.tr ?_ xa | with_reducible refine Ext.tr ?_ xb | with_reducible refine Ext.tr ?_ xc | with_reducible refine Ext.tr ?_ xd | with_reducible refine Ext.tr ?_ xe | with_reducible refine Ext.tr ?_ xf | with_reducible refine Ext.tr ?_ xg | with_reducible refine Ext.tr ?_ hx | with_reducible refine Ext.tr ?_ hext | with_reducible assumption))⟩⟩⟩
theorem mag_I64 {x : Int} (h1 : -9223372036854775808 ≤ x) (h2 : x ≤ 9223372036854775807) : 0 ≤ mag x ∧ mag x < 18446744073709551616 := by
  unfold mag; split <;> omega
theorem Size_any (x : Int) (w : World) (h1 : -9223372036854775808 ≤ x) (h2 : x ≤ 9223372036854775807) :
    Calls Try.prog 100 #[.int .i64 x] w fun e w' => e = .returned (.int .u64 (mag x)) ∧ w = w' := by
  by_cases h : x < 0
  · have g : mag x = -x := by simp [mag, h]
    rw [g]
    clear g
    go_enter Try.func100, Try.ntmps100
    go_wp2
    go_ret
    simp [IntKind.wrap_u64]
    omega
  · have g : mag x = x := by simp [mag, h]
    rw [g]
    have h0 : 0 ≤ x := by omega
    clear g
    go_enter Try.func100, Try.ntmps100
    go_wp2
    go_ret
    simp
/-- A number whose row is none of w's. -/
def NewInt (w : World) (v : Value) : Prop := ∀ s m, v = .agg #[s, m] → New w m
theorem From_new (x : Int) (w : World) (h1 : -9223372036854775808 ≤ x) (h2 : x ≤ 9223372036854775807) :
    Calls Try.prog 42 #[.int .i64 x] w fun e w' => ∃ v, e = .returned v ∧ Ext w w' ∧ IntAt w' v x 1 ∧ NewInt w v := by
  obtain ⟨m0, m1⟩ := mag_I64 h1 h2
  have S := Lib.hid (fun u => Size_any x u h1 h2)
  have N := Lib.hid (fun u => NOf_new (mag x) u m0 m1)
  clear m0 m1
  go_enter Try.func42, Try.ntmps42
  go_wp2_with fail; refine (S.out _).mono ?_; rintro e w' ⟨rfl, rfl⟩
  go_wp2_with fail; refine (N.out _).mono ?_; rintro e v1 ⟨q1, rfl, x1, h1⟩; obtain ⟨c1, f1⟩ := x1.rules; have z1 := x1.size; have k1_0_0 := c1 (w.heap.size) 0 (by first | (simp; done) | (simp; omega) | omega); have q1_0_0 := f1 (w.heap.size) 0 (by first | (simp; done) | (simp; omega) | omega); have k1_0_1 := c1 (w.heap.size) 1 (by first | (simp; done) | (simp; omega) | omega); have q1_0_1 := f1 (w.heap.size) 1 (by first | (simp; done) | (simp; omega) | omega); have z1_0 : w.heap.size < v1.heap.size := (by (try simp at z1); omega); (try simp at z1); clear c1 f1; simp [go_sem, *] at k1_0_0 q1_0_0 k1_0_1 q1_0_1
  obtain ⟨h1, n1⟩ := h1
  have H1 := Lib.hid h1
  have O1 := Lib.hid (n1.off (g := w.heap.size) (by simp))
  have e1 : (decide (x < 0) && decide (0 < mag x)) = decide (x < 0) := by unfold mag; by_cases h : x < 0 <;> simp [h]
  have E1 := Lib.hid e1
  have N1 := Lib.hid n1
  clear n1 e1
  obtain ⟨a, k, cap, rfl, -⟩ := h1.form
  have R := Lib.hid (fun u => Made_raw (decide (x < 0)) H1.out u)
  clear h1
  go_wp2_with fail; refine (R.out _).mono ?_; rintro e v2 ⟨rfl, x2⟩; obtain ⟨c2, f2⟩ := x2.rules; have z2 := x2.size; have k2_0_0 := c2 (w.heap.size) 0 (by first | (simp; done) | (simp; omega) | omega); have q2_0_0 := f2 (w.heap.size) 0 (by first | (simp; done) | (simp; omega) | omega); have k2_0_1 := c2 (w.heap.size) 1 (by first | (simp; done) | (simp; omega) | omega); have q2_0_1 := f2 (w.heap.size) 1 (by first | (simp; done) | (simp; omega) | omega); have z2_0 : w.heap.size < v2.heap.size := (by (try simp at z2); omega); (try simp at z2); clear c2 f2; simp [go_sem, *] at k2_0_0 q2_0_0 k2_0_1 q2_0_1; (try clear k1_0_0); (try clear q1_0_0); (try clear k1_0_1); (try clear q1_0_1)
  go_wp2
  simp [bodyPost, results, Try.results42, go_sem, *]
  have W1 : New w (.slice a k cap) := fun b hb => by have := N1.out b hb; simp at this; omega
  refine ⟨(by repeat (first | with_reducible exact Ext.refl _ | with_reducible apply Ext.drew | with_reducible apply Ext.drewN | with_reducible apply Ext.alloc | ((with_reducible refine Ext.setCell ?_ ?_ _); rotate_left; focus (first | (simp; done) | (simp; omega) | omega)) | with_reducible refine Ext.tr ?_ x1 | with_reducible refine Ext.tr ?_ x2 | with_reducible refine Ext.tr ?_ x3 | with_reducible refine Ext.tr ?_ x4 | with_reducible refine Ext.tr ?_ x5 | with_reducible refine Ext.tr ?_ x6 | with_reducible refine Ext.tr ?_ x7 | with_reducible refine Ext.tr ?_ x8 | with_reducible refine Ext.tr ?_ x9 | with_reducible refine Ext.tr ?_ xa | with_reducible refine Ext.tr ?_ xb | with_reducible refine Ext.tr ?_ xc | with_reducible refine Ext.tr ?_ xd | with_reducible refine Ext.tr ?_ xe | with_reducible refine Ext.tr ?_ xf | with_reducible refine Ext.tr ?_ xg | with_reducible refine Ext.tr ?_ hx | with_reducible refine Ext.tr ?_ hext | with_reducible assumption)), ⟨⟨_, by rw [E1.out], ((H1.out.ext (by repeat (first | with_reducible exact Ext.refl _ | with_reducible apply Ext.drew | with_reducible apply Ext.drewN | with_reducible apply Ext.alloc | ((with_reducible refine Ext.setCell ?_ ?_ _); rotate_left; focus (first | (simp; done) | (simp; omega) | omega)) | with_reducible refine Ext.tr ?_ x1 | with_reducible refine Ext.tr ?_ x2 | with_reducible refine Ext.tr ?_ x3 | with_reducible refine Ext.tr ?_ x4 | with_reducible refine Ext.tr ?_ x5 | with_reducible refine Ext.tr ?_ x6 | with_reducible refine Ext.tr ?_ x7 | with_reducible refine Ext.tr ?_ x8 | with_reducible refine Ext.tr ?_ x9 | with_reducible refine Ext.tr ?_ xa | with_reducible refine Ext.tr ?_ xb | with_reducible refine Ext.tr ?_ xc | with_reducible refine Ext.tr ?_ xd | with_reducible refine Ext.tr ?_ xe | with_reducible refine Ext.tr ?_ xf | with_reducible refine Ext.tr ?_ xg | with_reducible refine Ext.tr ?_ hx | with_reducible refine Ext.tr ?_ hext | with_reducible assumption))).off O1.out).off O1.out⟩⟩, fun s m e => ?_⟩
  simp at e
  rw [← e.2]; exact W1
theorem From_ref (x : Int) (w : World) (h1 : -9223372036854775808 ≤ x) (h2 : x ≤ 9223372036854775807) :
    Calls Try.prog 42 #[.int .i64 x] w fun e w' => ∃ v, e = .returned v ∧ Ext w w' ∧ IntAt w' v x 1 :=
  (From_new x w h1 h2).mono (by rintro e w' ⟨v, a, b, c, -⟩; exact ⟨v, a, b, c⟩)
theorem Abs_ref {v : Value} {x : Int} {L : Nat} {w : World} (h : IntAt w v x L) :
    Calls Try.prog 45 #[v] w fun e w' => ∃ v', e = .returned v' ∧ Ext w w' ∧ IntAt w' v' (mag x) L := by
  obtain ⟨m, rfl, hm⟩ := h.is
  obtain ⟨a, k, cap, rfl, -⟩ := hm.form
  have R := Lib.hid (fun u => Made_raw false hm u)
  have e1 : decide (mag x < 0) = false := by have := mag_nn x; simp; omega
  have e2 : mag (mag x) = mag x := by have := mag_nn x; rw [mag, if_neg (by omega)]
  have E1 := Lib.hid e1
  have E2 := Lib.hid e2
  have HM := Lib.hid hm
  clear h hm e1 e2
  go_enter Try.func45, Try.ntmps45
  go_wp2_with fail; refine (R.out _).mono ?_; rintro e v1 ⟨rfl, x1⟩; obtain ⟨c1, f1⟩ := x1.rules; have z1 := x1.size; have k1_0_0 := c1 (w.heap.size) 0 (by first | (simp; done) | (simp; omega) | omega); have q1_0_0 := f1 (w.heap.size) 0 (by first | (simp; done) | (simp; omega) | omega); have k1_0_1 := c1 (w.heap.size) 1 (by first | (simp; done) | (simp; omega) | omega); have q1_0_1 := f1 (w.heap.size) 1 (by first | (simp; done) | (simp; omega) | omega); have k1_1_0 := c1 (w.heap.size + 1) 0 (by first | (simp; done) | (simp; omega) | omega); have q1_1_0 := f1 (w.heap.size + 1) 0 (by first | (simp; done) | (simp; omega) | omega); have k1_1_1 := c1 (w.heap.size + 1) 1 (by first | (simp; done) | (simp; omega) | omega); have q1_1_1 := f1 (w.heap.size + 1) 1 (by first | (simp; done) | (simp; omega) | omega); have z1_0 : w.heap.size < v1.heap.size := (by (try simp at z1); omega); have z1_1 : w.heap.size + 1 < v1.heap.size := (by (try simp at z1); omega); (try simp at z1); clear c1 f1; simp [go_sem, *] at k1_0_0 q1_0_0 k1_0_1 q1_0_1 k1_1_0 q1_1_0 k1_1_1 q1_1_1
  go_wp2
  simp [bodyPost, results, Try.results45, go_sem, *]
  refine ⟨(by repeat (first | with_reducible exact Ext.refl _ | with_reducible apply Ext.drew | with_reducible apply Ext.drewN | with_reducible apply Ext.alloc | ((with_reducible refine Ext.setCell ?_ ?_ _); rotate_left; focus (first | (simp; done) | (simp; omega) | omega)) | with_reducible refine Ext.tr ?_ x1 | with_reducible refine Ext.tr ?_ x2 | with_reducible refine Ext.tr ?_ x3 | with_reducible refine Ext.tr ?_ x4 | with_reducible refine Ext.tr ?_ x5 | with_reducible refine Ext.tr ?_ x6 | with_reducible refine Ext.tr ?_ x7 | with_reducible refine Ext.tr ?_ x8 | with_reducible refine Ext.tr ?_ x9 | with_reducible refine Ext.tr ?_ xa | with_reducible refine Ext.tr ?_ xb | with_reducible refine Ext.tr ?_ xc | with_reducible refine Ext.tr ?_ xd | with_reducible refine Ext.tr ?_ xe | with_reducible refine Ext.tr ?_ xf | with_reducible refine Ext.tr ?_ xg | with_reducible refine Ext.tr ?_ hx | with_reducible refine Ext.tr ?_ hext | with_reducible assumption)), ⟨⟨_, by rw [E1.out], by rw [E2.out]; exact HM.out.ext (by repeat (first | with_reducible exact Ext.refl _ | with_reducible apply Ext.drew | with_reducible apply Ext.drewN | with_reducible apply Ext.alloc | ((with_reducible refine Ext.setCell ?_ ?_ _); rotate_left; focus (first | (simp; done) | (simp; omega) | omega)) | with_reducible refine Ext.tr ?_ x1 | with_reducible refine Ext.tr ?_ x2 | with_reducible refine Ext.tr ?_ x3 | with_reducible refine Ext.tr ?_ x4 | with_reducible refine Ext.tr ?_ x5 | with_reducible refine Ext.tr ?_ x6 | with_reducible refine Ext.tr ?_ x7 | with_reducible refine Ext.tr ?_ x8 | with_reducible refine Ext.tr ?_ x9 | with_reducible refine Ext.tr ?_ xa | with_reducible refine Ext.tr ?_ xb | with_reducible refine Ext.tr ?_ xc | with_reducible refine Ext.tr ?_ xd | with_reducible refine Ext.tr ?_ xe | with_reducible refine Ext.tr ?_ xf | with_reducible refine Ext.tr ?_ xg | with_reducible refine Ext.tr ?_ hx | with_reducible refine Ext.tr ?_ hext | with_reducible assumption))⟩⟩⟩
def sgn (x : Int) : Int := if x < 0 then -1 else if 0 < x then 1 else 0
theorem Sign_ref {v : Value} {x : Int} {L : Nat} {w : World} (h : IntAt w v x L) :
    Calls Try.prog 101 #[v] w fun e w' => e = .returned (.int .i64 (sgn x)) ∧ Ext w w' := by
  obtain ⟨m, rfl, hm⟩ := h.is
  obtain ⟨a, k, cap, rfl, -, z1, z2⟩ := hm.form
  clear h hm
  rcases Int.lt_trichotomy x 0 with hx | hx | hx
  · have e : decide (x < 0) = true := by simp [hx]
    have s : sgn x = -1 := by simp [sgn, hx]
    rw [e, s]
    clear e s z1 z2 hx
    go_enter Try.func101, Try.ntmps101
    go_wp2
    go_ret
    exact ⟨rfl, (by repeat (first | with_reducible exact Ext.refl _ | with_reducible apply Ext.drew | with_reducible apply Ext.drewN | with_reducible apply Ext.alloc | ((with_reducible refine Ext.setCell ?_ ?_ _); rotate_left; focus (first | (simp; done) | (simp; omega) | omega)) | with_reducible refine Ext.tr ?_ x1 | with_reducible refine Ext.tr ?_ x2 | with_reducible refine Ext.tr ?_ x3 | with_reducible refine Ext.tr ?_ x4 | with_reducible refine Ext.tr ?_ x5 | with_reducible refine Ext.tr ?_ x6 | with_reducible refine Ext.tr ?_ x7 | with_reducible refine Ext.tr ?_ x8 | with_reducible refine Ext.tr ?_ x9 | with_reducible refine Ext.tr ?_ xa | with_reducible refine Ext.tr ?_ xb | with_reducible refine Ext.tr ?_ xc | with_reducible refine Ext.tr ?_ xd | with_reducible refine Ext.tr ?_ xe | with_reducible refine Ext.tr ?_ xf | with_reducible refine Ext.tr ?_ xg | with_reducible refine Ext.tr ?_ hx | with_reducible refine Ext.tr ?_ hext | with_reducible assumption))⟩
  · have hk : k = 0 := by
      rcases Nat.eq_zero_or_pos k with h | h
      · exact h
      · have := z2 h; subst hx; simp [mag] at this
    subst hx hk
    clear z1 z2
    go_enter Try.func101, Try.ntmps101
    go_wp2
    go_ret
    exact ⟨rfl, (by repeat (first | with_reducible exact Ext.refl _ | with_reducible apply Ext.drew | with_reducible apply Ext.drewN | with_reducible apply Ext.alloc | ((with_reducible refine Ext.setCell ?_ ?_ _); rotate_left; focus (first | (simp; done) | (simp; omega) | omega)) | with_reducible refine Ext.tr ?_ x1 | with_reducible refine Ext.tr ?_ x2 | with_reducible refine Ext.tr ?_ x3 | with_reducible refine Ext.tr ?_ x4 | with_reducible refine Ext.tr ?_ x5 | with_reducible refine Ext.tr ?_ x6 | with_reducible refine Ext.tr ?_ x7 | with_reducible refine Ext.tr ?_ x8 | with_reducible refine Ext.tr ?_ x9 | with_reducible refine Ext.tr ?_ xa | with_reducible refine Ext.tr ?_ xb | with_reducible refine Ext.tr ?_ xc | with_reducible refine Ext.tr ?_ xd | with_reducible refine Ext.tr ?_ xe | with_reducible refine Ext.tr ?_ xf | with_reducible refine Ext.tr ?_ xg | with_reducible refine Ext.tr ?_ hx | with_reducible refine Ext.tr ?_ hext | with_reducible assumption))⟩
  · have hk : (0 : Int) < (k : Int) := by
      rcases Nat.eq_zero_or_pos k with h | h
      · have := z1 h; unfold mag at this; split at this <;> omega
      · omega
    have e : decide (x < 0) = false := by simp; omega
    have s : sgn x = 1 := by unfold sgn; rw [if_neg (by omega), if_pos hx]
    rw [e, s]
    clear e s z1 z2 hx
    go_enter Try.func101, Try.ntmps101
    go_wp2
    go_ret
    exact ⟨rfl, (by repeat (first | with_reducible exact Ext.refl _ | with_reducible apply Ext.drew | with_reducible apply Ext.drewN | with_reducible apply Ext.alloc | ((with_reducible refine Ext.setCell ?_ ?_ _); rotate_left; focus (first | (simp; done) | (simp; omega) | omega)) | with_reducible refine Ext.tr ?_ x1 | with_reducible refine Ext.tr ?_ x2 | with_reducible refine Ext.tr ?_ x3 | with_reducible refine Ext.tr ?_ x4 | with_reducible refine Ext.tr ?_ x5 | with_reducible refine Ext.tr ?_ x6 | with_reducible refine Ext.tr ?_ x7 | with_reducible refine Ext.tr ?_ x8 | with_reducible refine Ext.tr ?_ x9 | with_reducible refine Ext.tr ?_ xa | with_reducible refine Ext.tr ?_ xb | with_reducible refine Ext.tr ?_ xc | with_reducible refine Ext.tr ?_ xd | with_reducible refine Ext.tr ?_ xe | with_reducible refine Ext.tr ?_ xf | with_reducible refine Ext.tr ?_ xg | with_reducible refine Ext.tr ?_ hx | with_reducible refine Ext.tr ?_ hext | with_reducible assumption))⟩
end Go.Proofs.Ytielcbpjnjdlmaa
