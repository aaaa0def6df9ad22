/- ref91: den, Neg, Abs, Make. ref91: From, Int, Over2, Neg, Abs. ref91: Plus, Less, Cmp. -/
import Derived.Test.YtjmecongccjcgaaInts
namespace Go.Proofs.Ytjmecongccjcgaa
open Go.RowKit
/-- n over d, as a world holds it (lowest terms or not). -/
structure RatAt (w : World) (v : Value) (n d : Int) (L : Nat) : Prop where
  is : ∃ a k c b l e, v = .agg #[.bool (decide (n < 0)), .slice a k c, .slice b l e] ∧ NatAt w (.slice a k c) (mag n) L ∧ NatAt w (.slice b l e) d L
theorem RatAt.ext {w w' : World} {v : Value} {n d : Int} {L : Nat} (h : RatAt w v n d L) (x : Ext w w') : RatAt w' v n d L := by
  obtain ⟨a, k, c, b, l, e, h1, h2, h3⟩ := h.is; exact ⟨⟨a, k, c, b, l, e, h1, h2.ext x, h3.ext x⟩⟩
theorem RatAt.mono {w : World} {v : Value} {n d : Int} {L L' : Nat} (h : RatAt w v n d L) (hl : L ≤ L') : RatAt w v n d L' := by
  obtain ⟨a, k, c, b, l, e, h1, h2, h3⟩ := h.is; exact ⟨⟨a, k, c, b, l, e, h1, h2.mono hl, h3.mono hl⟩⟩
theorem Neg_raw {x : Int} {a : Option Addr} {k c L : Nat} {w0 : World} (hm : NatAt w0 (.slice a k c) (mag x) L) (w : World) :
    Calls Try.prog 59 #[.agg #[.bool (decide (x < 0)), .slice a k c]] w fun e w' => e = .returned (.agg #[.bool (decide (-x < 0)), .slice a k c]) ∧ Ext w w' := by
  have R := Lib.hid (fun u => Made_raw (!decide (x < 0)) hm u)
  have e1 : (!decide (x < 0) && decide (0 < mag x)) = decide (-x < 0) := by unfold mag; by_cases h : x < 0 <;> simp [h] <;> omega
  rw [← e1]
  clear hm e1
  go_enter Try.func59, Try.ntmps59
  go_wp2_with fail; refine (R.out _).mono ?_; rintro e v1 ⟨rfl, x1⟩; obtain ⟨c1, f1⟩ := x1.rules; have z1 := x1.size; have k1_0_0 := c1 (w.heap.size) 0 (by first | (simp; done) | (simp; omega) | omega); have q1_0_0 := f1 (w.heap.size) 0 (by first | (simp; done) | (simp; omega) | omega); have k1_0_1 := c1 (w.heap.size) 1 (by first | (simp; done) | (simp; omega) | omega); have q1_0_1 := f1 (w.heap.size) 1 (by first | (simp; done) | (simp; omega) | omega); have k1_1_0 := c1 (w.heap.size + 1) 0 (by first | (simp; done) | (simp; omega) | omega); have q1_1_0 := f1 (w.heap.size + 1) 0 (by first | (simp; done) | (simp; omega) | omega); have k1_1_1 := c1 (w.heap.size + 1) 1 (by first | (simp; done) | (simp; omega) | omega); have q1_1_1 := f1 (w.heap.size + 1) 1 (by first | (simp; done) | (simp; omega) | omega); have z1_0 : w.heap.size < v1.heap.size := (by (try simp at z1); omega); have z1_1 : w.heap.size + 1 < v1.heap.size := (by (try simp at z1); omega); (try simp at z1); clear c1 f1; simp [go_sem, *] at k1_0_0 q1_0_0 k1_0_1 q1_0_1 k1_1_0 q1_1_0 k1_1_1 q1_1_1
  go_wp2
  simp [bodyPost, results, Try.results59, go_sem, *]
  exact (by repeat (first | with_reducible exact Ext.refl _ | with_reducible apply Ext.drew | with_reducible apply Ext.drewN | with_reducible apply Ext.alloc | ((with_reducible refine Ext.setCell ?_ ?_ _); rotate_left; focus (first | (simp; done) | (simp; omega) | omega)) | with_reducible refine Ext.tr ?_ x1 | with_reducible assumption))
theorem Abs_raw {x : Int} {s : Bool} {a : Option Addr} {k c L : Nat} {w0 : World} (hm : NatAt w0 (.slice a k c) (mag x) L) (w : World) :
    Calls Try.prog 24 #[.agg #[.bool s, .slice a k c]] w fun e w' => e = .returned (.agg #[.bool false, .slice a k c]) ∧ Ext w w' := by
  have R := Lib.hid (fun u => Made_raw false hm u)
  clear hm
  go_enter Try.func24, Try.ntmps24
  go_wp2_with fail; refine (R.out _).mono ?_; rintro e v1 ⟨rfl, x1⟩; obtain ⟨c1, f1⟩ := x1.rules; have z1 := x1.size; have k1_0_0 := c1 (w.heap.size) 0 (by first | (simp; done) | (simp; omega) | omega); have q1_0_0 := f1 (w.heap.size) 0 (by first | (simp; done) | (simp; omega) | omega); have k1_0_1 := c1 (w.heap.size) 1 (by first | (simp; done) | (simp; omega) | omega); have q1_0_1 := f1 (w.heap.size) 1 (by first | (simp; done) | (simp; omega) | omega); have k1_1_0 := c1 (w.heap.size + 1) 0 (by first | (simp; done) | (simp; omega) | omega); have q1_1_0 := f1 (w.heap.size + 1) 0 (by first | (simp; done) | (simp; omega) | omega); have k1_1_1 := c1 (w.heap.size + 1) 1 (by first | (simp; done) | (simp; omega) | omega); have q1_1_1 := f1 (w.heap.size + 1) 1 (by first | (simp; done) | (simp; omega) | omega); have z1_0 : w.heap.size < v1.heap.size := (by (try simp at z1); omega); have z1_1 : w.heap.size + 1 < v1.heap.size := (by (try simp at z1); omega); (try simp at z1); clear c1 f1; simp [go_sem, *] at k1_0_0 q1_0_0 k1_0_1 q1_0_1 k1_1_0 q1_1_0 k1_1_1 q1_1_1
  go_wp2
  simp [bodyPost, results, Try.results24, go_sem, *]
  exact (by repeat (first | with_reducible exact Ext.refl _ | with_reducible apply Ext.drew | with_reducible apply Ext.drewN | with_reducible apply Ext.alloc | ((with_reducible refine Ext.setCell ?_ ?_ _); rotate_left; focus (first | (simp; done) | (simp; omega) | omega)) | with_reducible refine Ext.tr ?_ x1 | with_reducible assumption))
theorem gcd_parts {n d : Int} (hd : 0 < d) : 0 < (Int.gcd (mag n) d : Int) ∧ n = sg (decide (n < 0)) (mag n / Int.gcd (mag n) d) * Int.gcd (mag n) d ∧ d = d / Int.gcd (mag n) d * Int.gcd (mag n) d ∧ 0 < d / Int.gcd (mag n) d ∧ 0 ≤ mag n / Int.gcd (mag n) d := by
  have g0 : 0 < (Int.gcd (mag n) d : Int) := by
    have := Int.gcd_pos_of_ne_zero_right (mag n) (show d ≠ 0 by omega)
    omega
  have h1 : mag n / Int.gcd (mag n) d * Int.gcd (mag n) d = mag n := Int.ediv_mul_cancel (Int.gcd_dvd_left _ _)
  have h2 : d / Int.gcd (mag n) d * Int.gcd (mag n) d = d := Int.ediv_mul_cancel (Int.gcd_dvd_right _ _)
  have hm := mag_nn n
  refine ⟨g0, ?_, h2.symm, ?_, Int.ediv_nonneg hm (Int.le_of_lt g0)⟩
  · by_cases h : n < 0
    · simp only [h, decide_true, sg, if_true, Int.neg_mul, h1]; unfold mag; rw [if_pos h]; omega
    · have e : mag n = n := by rw [mag, if_neg h]
      rw [e] at h1 ⊢
      simp [sg, h]; omega
  · rcases Int.lt_or_le 0 (d / Int.gcd (mag n) d) with h | h
    · exact h
    · have := Int.mul_le_mul_of_nonneg_right h (Int.le_of_lt g0)
      rw [h2] at this; omega
def NewRat (w : World) (v : Value) : Prop := ∀ s m k, v = .agg #[s, m, k] → New w m ∧ New w k
end Go.Proofs.Ytjmecongccjcgaa
namespace Go.Proofs.Ytjmecongccjcgaa
open Go.RowKit
theorem NatAt.alloc' {w : World} {v : Value} {x : Int} {L : Nat} {o : Obj} (h : NatAt w v x L) : NatAt (w.alloc o) v x L := h.ext ((Ext.refl _).alloc _)
theorem NatAt.drew' {w : World} {v : Value} {x : Int} {L : Nat} (h : NatAt w v x L) : NatAt w.drew v x L := h.ext (Ext.refl _).drew
theorem NatAt.drewN' {w : World} {v : Value} {x : Int} {L m : Nat} (h : NatAt w v x L) : NatAt (w.drewN m) v x L := h.ext ((Ext.refl _).drewN _)
end Go.Proofs.Ytjmecongccjcgaa
namespace Go.Proofs.Ytjmecongccjcgaa
open Go.RowKit
theorem NewRat.mk {w : World} {s m k : Value} (h : New w m) (h' : New w k) : NewRat w (.agg #[s, m, k]) := fun s' m' k' e => by
  simp at e; rw [← e.2.1, ← e.2.2]; exact ⟨h, h'⟩
theorem New.old {v w : World} {m : Value} (h : New v m) (hs : w.heap.size ≤ v.heap.size) : New w m := fun b hb => Nat.le_trans hs (h b hb)
end Go.Proofs.Ytjmecongccjcgaa
