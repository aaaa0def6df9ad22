/- ref90: Int, Zero, Divide. ref90: Small. ref90: Right. -/
import Derived.Test.YtjmecongccjcgaaRats
import Derived.Test.YtjmecongccjcgaaInts
import Derived.Test.YtjmecongccjcgaaNears
import Derived.BigQuiet
namespace Go.Proofs.Ytjmecongccjcgaa
open Go.RowKit
theorem mag_of {n : Int} (h : 0 ≤ n) : mag n = n := by rw [mag, if_neg (by omega)]
theorem mag_ng {n : Int} (h : 0 ≤ n) : mag (-n) = n := by unfold mag; split <;> omega
theorem div_pos' {x y : Int} (h : ¬ x < 0) : x / y = mag x / y ∧ x - x / y * y = x % y := by
  have e : mag x = x := by rw [mag, if_neg h]
  have := Int.ediv_mul_add_emod x y
  exact ⟨by rw [e], by omega⟩
theorem div_neg0 {x y : Int} (hy : 0 < y) (h : x < 0) (hr : mag x % y = 0) : x / y = -(mag x / y) ∧ x - -(mag x / y) * y = x % y := by
  have e : mag x = -x := by rw [mag, if_pos h]
  have d := Int.ediv_mul_add_emod (mag x) y
  have u := (Int.ediv_emod_unique (a := x) (b := y) (r := 0) (q := -(mag x / y)) hy).2 ⟨by rw [Int.mul_neg, Int.mul_comm y]; omega, by omega, hy⟩
  refine ⟨u.1, ?_⟩
  rw [u.2, Int.neg_mul]; omega
theorem div_neg1 {x y : Int} (hy : 0 < y) (h : x < 0) (hr : 0 < mag x % y) : x / y = -(mag x / y) - 1 ∧ x - (-(mag x / y) - 1) * y = x % y := by
  have e : mag x = -x := by rw [mag, if_pos h]
  have d := Int.ediv_mul_add_emod (mag x) y
  have l := Int.emod_lt_of_pos (mag x) hy
  have u := (Int.ediv_emod_unique (a := x) (b := y) (r := y - mag x % y) (q := -(mag x / y) - 1) hy).2 ⟨by rw [Int.mul_sub, Int.mul_neg, Int.mul_comm y]; omega, by omega, by omega⟩
  refine ⟨u.1, ?_⟩
  rw [u.2, Int.sub_mul, Int.neg_mul]; omega
end Go.Proofs.Ytjmecongccjcgaa
namespace Go.Proofs.Ytjmecongccjcgaa
open Go.RowKit
def sb (x : Int) : Bool := decide (-9223372036854775808 ≤ x ∧ x < 9223372036854775808)
def sv (x : Int) : Int := if sb x then x else 0
theorem sb_of {x : Int} (h : -9223372036854775808 ≤ x ∧ x < 9223372036854775808) : sb x = true ∧ sv x = x := by
  have e : sb x = true := by simp [sb]; omega
  exact ⟨e, by simp [sv, e]⟩
theorem sb_no {x : Int} (h : x < -9223372036854775808 ∨ 9223372036854775808 ≤ x) : sb x = false ∧ sv x = 0 := by
  have e : sb x = false := by simp [sb]; omega
  exact ⟨e, by simp [sv, e]⟩
theorem Small_ref {v : Value} {x : Int} {L : Nat} {w : World} (h : IntAt w v x L) :
    Calls Try.prog 88 #[v] w fun e w' => e = .returned (.tuple #[.int .i64 (sv x), .bool (sb x)]) ∧ Ext w w' := by
  obtain ⟨m, rfl, hm⟩ := h.is
  obtain ⟨xs, ⟨ax, capx, rfl, hx2⟩, dX, nX, e, lX⟩ := hm.is
  have rx' : Row .u64 w (.slice ax xs.length capx) xs := ⟨ax, capx, rfl, hx2⟩
  have RX := Lib.hid rx'
  clear h hm rx' hx2 lX
  by_cases h0 : xs = []
  · subst h0
    have hx : x = 0 := by simp [val] at e; unfold mag at e; split at e <;> omega
    subst hx
    rw [(sb_of (x := 0) (by omega)).1, (sb_of (x := 0) (by omega)).2]
    clear e dX nX
    go_enter Try.func88, Try.ntmps88
    go_wp2
    go_ret2
    exact ⟨rfl, (by repeat (first | with_reducible exact Ext.refl _ | with_reducible apply Ext.drew | with_reducible apply Ext.drewN | with_reducible apply Ext.alloc | ((with_reducible refine Ext.setCell ?_ ?_ _); rotate_left; focus (first | (simp; done) | (simp; omega) | omega)) | with_reducible refine Ext.tr ?_ hx | with_reducible assumption))⟩
  · have hpos : 0 < xs.length := List.length_pos_iff.2 h0
    obtain ⟨bx, ox, rfl, cx⟩ := RX.out.cellAt 0 hpos
    rw [Nat.add_zero] at cx
    have hbx : bx < w.heap.size := cell_lt cx
    have vt := val_top (by decide) dX nX h0
    have vb := (val_bd (by decide) xs dX).2
    rw [e] at vt vb
    obtain ⟨d0, d1⟩ := dX.at 0 hpos
    unfold B64 at d1
    have nz : ¬ (xs.length : Int) = 0 := by omega
    by_cases h1 : xs.length = 1
    · have ed : xs.getD 0 0 = mag x := by
        obtain ⟨d, rfl⟩ := List.length_eq_one_iff.1 h1
        rw [← e]; simp [val]
      rw [ed] at cx d0 d1
      rw [h1] at nz ⊢
      clear e dX nX RX vt vb h0 ed hpos
      rcases Int.lt_or_le x 0 with hx | hx
      · have eb : decide (x < 0) = true := by simp [hx]
        have em : mag x = -x := by rw [mag, if_pos hx]
        rw [em] at cx d0 d1
        rw [eb]
        by_cases hs : -x ≤ 9223372036854775808
        · rw [(sb_of (x := x) (by omega)).1, (sb_of (x := x) (by omega)).2]
          have hs' : ¬ 9223372036854775808 < -x := by omega
          have e1 : wrap64 (IntKind.u64.wrap x) = x := by rw [IntKind.wrap_u64]; unfold wrap64; omega
          clear eb em h1 hs
          go_enter Try.func88, Try.ntmps88
          go_wp2
          go_ret2
          simp [*]
          exact (by repeat (first | with_reducible exact Ext.refl _ | with_reducible apply Ext.drew | with_reducible apply Ext.drewN | with_reducible apply Ext.alloc | ((with_reducible refine Ext.setCell ?_ ?_ _); rotate_left; focus (first | (simp; done) | (simp; omega) | omega)) | with_reducible refine Ext.tr ?_ hx | with_reducible assumption))
        · rw [(sb_no (x := x) (by omega)).1, (sb_no (x := x) (by omega)).2]
          have hs' : 9223372036854775808 < -x := by omega
          clear eb em h1 hs
          go_enter Try.func88, Try.ntmps88
          go_wp2
          go_ret2
          exact ⟨rfl, (by repeat (first | with_reducible exact Ext.refl _ | with_reducible apply Ext.drew | with_reducible apply Ext.drewN | with_reducible apply Ext.alloc | ((with_reducible refine Ext.setCell ?_ ?_ _); rotate_left; focus (first | (simp; done) | (simp; omega) | omega)) | with_reducible refine Ext.tr ?_ hx | with_reducible assumption))⟩
      · have eb : decide (x < 0) = false := by simp; omega
        have em : mag x = x := by rw [mag, if_neg (by omega)]
        rw [em] at cx d0 d1
        rw [eb]
        by_cases hs : x < 9223372036854775808
        · rw [(sb_of (x := x) (by omega)).1, (sb_of (x := x) (by omega)).2]
          have hs' : ¬ 9223372036854775808 ≤ x := by omega
          have e1 : wrap64 x = x := by unfold wrap64; omega
          clear eb em h1 hs
          go_enter Try.func88, Try.ntmps88
          go_wp2
          go_ret2
          simp [*]
          exact (by repeat (first | with_reducible exact Ext.refl _ | with_reducible apply Ext.drew | with_reducible apply Ext.drewN | with_reducible apply Ext.alloc | ((with_reducible refine Ext.setCell ?_ ?_ _); rotate_left; focus (first | (simp; done) | (simp; omega) | omega)) | with_reducible refine Ext.tr ?_ hx | with_reducible assumption))
        · rw [(sb_no (x := x) (by omega)).1, (sb_no (x := x) (by omega)).2]
          have hs' : 9223372036854775808 ≤ x := by omega
          clear eb em h1 hs
          go_enter Try.func88, Try.ntmps88
          go_wp2
          go_ret2
          exact ⟨rfl, (by repeat (first | with_reducible exact Ext.refl _ | with_reducible apply Ext.drew | with_reducible apply Ext.drewN | with_reducible apply Ext.alloc | ((with_reducible refine Ext.setCell ?_ ?_ _); rotate_left; focus (first | (simp; done) | (simp; omega) | omega)) | with_reducible refine Ext.tr ?_ hx | with_reducible assumption))⟩
    · have big : B64 ^ 1 ≤ mag x := Int.le_trans (pow_mono' (show (1 : Int) ≤ B64 by decide) (show 1 ≤ xs.length - 1 by omega)) vt
      have b1 : B64 ^ 1 = 18446744073709551616 := by decide
      rw [b1] at big
      have sn := sb_no (x := x) (by unfold mag at big; split at big <;> omega)
      rw [sn.1, sn.2]
      have gt : (1 : Int) < (xs.length : Int) := by omega
      clear e dX nX RX vt vb h0 sn big b1 h1
      generalize xs.getD 0 0 = d at *
      go_enter Try.func88, Try.ntmps88
      go_wp2
      go_ret2
      exact ⟨rfl, (by repeat (first | with_reducible exact Ext.refl _ | with_reducible apply Ext.drew | with_reducible apply Ext.drewN | with_reducible apply Ext.alloc | ((with_reducible refine Ext.setCell ?_ ?_ _); rotate_left; focus (first | (simp; done) | (simp; omega) | omega)) | with_reducible refine Ext.tr ?_ hx | with_reducible assumption))⟩
end Go.Proofs.Ytjmecongccjcgaa
namespace Go.Proofs.Ytjmecongccjcgaa
open Go.RowKit
theorem pow_p2 {n : Int} : (2 : Int) ^ (64 * (n.toNat / 64) + n.toNat % 64) = p2 n := by
  have e : 64 * (n.toNat / 64) + n.toNat % 64 = n.toNat := by omega
  rw [e]; rfl
theorem Up2_p2 {m : Value} {x n : Int} {L L' : Nat} {w : World} (hX : NatAt w m x L) (hL : L ≤ 1000000) (n0 : 0 ≤ n) (n1 : n ≤ 1000) (hl : L + n.toNat / 64 + 1 ≤ L') :
    Calls Try.prog 60 #[m, .int .i64 n] w fun e w' => ∃ v, e = .returned v ∧ Ext w w' ∧ NatAt w' v (x * p2 n) L' := by
  have u := Up2_any hX hL (q := n.toNat / 64) (s := n.toNat % 64) (by omega) (by omega) (n := n) (by omega)
  rw [pow_p2] at u
  exact u.mono (by rintro e w' ⟨v, h1, h2, h3⟩; exact ⟨v, h1, h2, h3.mono hl⟩)
theorem Left_p2r {u : Value} {x n : Int} {L L' : Nat} {w : World} (hu : IntAt w u x L) (hL : L ≤ 400000) (n0 : 0 ≤ n) (n1 : n ≤ 1000) (hl : L + n.toNat / 64 + 1 ≤ L') :
    Calls Try.prog 26 #[u, .int .i64 n] w fun e w' => ∃ v, e = .returned v ∧ Ext w w' ∧ IntAt w' v (x * p2 n) L' ∧ NewInt w v := by
  have u := Left_ref hu hL (q := n.toNat / 64) (s := n.toNat % 64) (by omega) (by omega) (n := n) (by omega)
  rw [pow_p2] at u
  exact u.mono (by rintro e w' ⟨v, h1, h2, h3, h4⟩; exact ⟨v, h1, h2, h3.mono hl, h4⟩)
theorem cmp_z {x y : Int} (h : x = y) : (cmpI x y != 0) = false := by subst h; simp [cmpI]
theorem cmp_nz {x y : Int} (h : x ≠ y) : (cmpI x y != 0) = true := by
  unfold cmpI
  rcases Int.lt_trichotomy x y with h' | h' | h'
  · simp [h']
  · exact absurd h' h
  · rw [if_neg (by omega), if_pos h']; rfl
end Go.Proofs.Ytjmecongccjcgaa
