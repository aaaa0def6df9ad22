/- SeedDraws: its parts, in the forms that the walk stores. -/
import Derived.Test.YtmbgaonnknaclaaMask
import Derived.Test.YtmbgaonnknaclaaCopyR
import Derived.Test.YtmbgaonnknaclaaWithin
import Derived.Test.YtmbgaonnknaclaaAskSeed
namespace Go.Proofs.Ytmbgaonnknaclaa
open Go.RowKit
attribute [local go_sem ↓] Go.wp_at_zero Go.wp_at_succ
theorem num25_any (a : Int) (w : World) : Calls Try.prog 13 #[.int .i64 a] w fun e w' => e = .returned (.int .i64 a) ∧ w = w' := by
  go_enter Try.func13, Try.ntmps13
  go_wp2
  go_ret
  exact ⟨rfl, rfl⟩
/-- A generator's value is five numbers. -/
def Agg (v : Value) : Prop := ∃ a m c p q r s, v = .agg #[.slice a m c, .int .u64 p, .int .u64 q, .int .u64 r, .int .u64 s]
theorem RandAt.agg {w : World} {v : Value} {g : Gen} (h : RandAt w v g) : Agg v := by
  obtain ⟨a, m, c, p, q, r, s, rfl, -⟩ := h.form
  exact ⟨a, m, c, p, q, r, s, rfl⟩
section
variable {n : Nat} {g : Gen} {v : Value} {w : World}
theorem shuffle_agg (h : RandAt w v g) (hf : g.Fine) (n1 : 1 ≤ n) (n2 : n ≤ 30) :
    Calls Try.prog 10 #[v, .int .i64 n] w fun e w' => ∃ o a m c p q r s, e = .returned (.tuple #[o, .agg #[.slice a m c, .int .u64 p, .int .u64 q, .int .u64 r, .int .u64 s], .int .i64 0]) ∧ Ext w w' ∧ Hid (Row .i64 w' o (shufAt n g (n - 1))) ∧ Hid (RandAt w' (.agg #[.slice a m c, .int .u64 p, .int .u64 q, .int .u64 r, .int .u64 s]) (g.turn n (n - 1))) :=
  (shuffle_any h hf n1 (by omega) (fun j h1 h2 => few_of (by omega) (by omega))).mono (by
    rintro e w' ⟨o, v', rfl, x, r1, r2⟩
    obtain ⟨a, m, c, p, q, r, s, rfl⟩ := r2.agg
    exact ⟨o, a, m, c, p, q, r, s, rfl, x, Lib.hid r1, Lib.hid r2⟩)
theorem mask_agg {q : Int} (h : RandAt w v g) (hf : g.Fine) (n1 : 1 ≤ n) (n2 : n ≤ 60) (q0 : 0 ≤ q) (q1 : q ≤ 99) :
    Calls Try.prog 16 #[v, .int .i64 n, .int .i64 q] w fun e w' => ∃ o a m c p t r s, e = .returned (.tuple #[o, .agg #[.slice a m c, .int .u64 p, .int .u64 t, .int .u64 r, .int .u64 s], .int .i64 0]) ∧ Ext w w' ∧ Hid (Row .i64 w' o (masks q n [] g).1) ∧ Hid (RandAt w' (.agg #[.slice a m c, .int .u64 p, .int .u64 t, .int .u64 r, .int .u64 s]) (masks q n [] g).2) :=
  (mask_any h hf n1 (by omega) q0 q1).mono (by
    rintro e w' ⟨o, v', rfl, x, r1, r2⟩
    obtain ⟨a, m, c, p, q, r, s, rfl⟩ := r2.agg
    exact ⟨o, a, m, c, p, q, r, s, rfl, x, Lib.hid r1, Lib.hid r2⟩)
theorem below_agg {j : Int} (h : RandAt w v g) (hf : g.Fine) (hn : Few j) :
    Calls Try.prog 12 #[v, .int .u64 j] w fun e w' => ∃ a m c p q r s, e = .returned (.tuple #[.int .u64 (g.below j), .agg #[.slice a m c, .int .u64 p, .int .u64 q, .int .u64 r, .int .u64 s], .int .i64 0]) ∧ Ext w w' ∧ Hid (RandNew w.heap.size w' (.agg #[.slice a m c, .int .u64 p, .int .u64 q, .int .u64 r, .int .u64 s]) (g.past j)) :=
  (below_few h hf hn).mono (by
    rintro e w' ⟨v', rfl, x, r2⟩
    obtain ⟨a, m, c, p, q, r, s, rfl⟩ := r2.at.agg
    exact ⟨a, m, c, p, q, r, s, rfl, x, Lib.hid r2⟩)
theorem copy_agg (h : RandAt w v g) (hf : g.Fine) :
    Calls Try.prog 11 #[v] w fun e w' => ∃ a m c p q r s, e = .returned (.agg #[.slice a m c, .int .u64 p, .int .u64 q, .int .u64 r, .int .u64 s]) ∧ Ext w w' ∧ Hid (RandNew w.heap.size w' (.agg #[.slice a m c, .int .u64 p, .int .u64 q, .int .u64 r, .int .u64 s]) g) :=
  (copy_rand h (by have := hf.len; omega)).mono (by
    rintro e w' ⟨v', rfl, x, r2⟩
    obtain ⟨a, m, c, p, q, r, s, rfl⟩ := r2.at.agg
    exact ⟨a, m, c, p, q, r, s, rfl, x, Lib.hid r2⟩)
end
def gen1 : Gen := ⟨[], ⟨1, 0, 0, 0⟩⟩
theorem gen1_fine : gen1.Fine := ⟨by decide, fun x h => by cases h⟩
theorem gen1_at (w : World) : RandAt w (.agg #[.slice none 0 0, .int .u64 1, .int .u64 0, .int .u64 0, .int .u64 0]) gen1 := ⟨none, 0, by simp [gen1, iv], Row.nil _ _⟩
theorem row_one (w : World) (k : IntKind) (x : Int) (t : TypeId) : Row k (w.alloc (.cells #[.int k x] t)) (.slice (some ⟨w.heap.size, 0, none⟩) 1 1) [x] :=
  ⟨_, _, rfl, Nat.le_refl _, by unfold maxLen; decide, fun _ => ⟨w.heap.size, 0, rfl, fun i hi => by
    have h0 : i = 0 := by simp at hi; omega
    subst h0
    exact (Blk.new w t #[.int k x]).cell 0⟩⟩
set_option maxRecDepth 100000 in
set_option maxHeartbeats 1000000 in
theorem wakes25 (w : World) : Calls Try.prog 18 #[] w fun e w' => e = .returned (.bool true) ∧ Ext w w' := by
  have SH : Hid (∀ W, Calls Try.prog 10 #[.agg #[.slice none 0 0, .int .u64 1, .int .u64 0, .int .u64 0, .int .u64 0], .int .i64 1] W fun e w' => ∃ o a m c p q r s, e = .returned (.tuple #[o, .agg #[.slice a m c, .int .u64 p, .int .u64 q, .int .u64 r, .int .u64 s], .int .i64 0]) ∧ Ext W w' ∧ Hid (Row .i64 w' o [0])) := Lib.hid fun W => (shuffle_agg (w := W) (n := 1) (gen1_at W) gen1_fine (by decide) (by decide)).mono (by
    rintro e w' ⟨o, a, m, c, p, q, r, s, rfl, x, r1, -⟩
    exact ⟨o, a, m, c, p, q, r, s, rfl, x, Lib.hid (by have := r1.out; rwa [show shufAt 1 gen1 (1 - 1) = [0] by simp [shufAt, iota]] at this)⟩)
  go_enter Try.func18, Try.ntmps18
  go_wp2_with fail
  refine (SH.out _).mono ?_
  rintro e v1 ⟨o, a, m, c, p, q, r, s, rfl, x1, r1⟩
  have E : Hid (∀ (W : World) (n : Nat), Ext v1 W → W.heap.size = n → Calls Try.prog 14 #[o, .slice (some ⟨n, 0, none⟩) 1 1] (W.alloc (.cells #[.int .i64 0] 3)) fun e w' => e = .returned (.bool true) ∧ Ext (W.alloc (.cells #[.int .i64 0] 3)) w') := Lib.hid (fun W n x hn => by
    subst hn
    exact (eqNumbers_any (r1.out.ext (x.alloc (.cells #[.int .i64 0] 3))) (row_one W .i64 0 3)).mono (by
      rintro e w' ⟨rfl, k, rfl⟩
      exact ⟨by simp, (Ext.refl _).drewN _⟩))
  clear SH
  go_wp2_with fail
  go_wp2_with fail; refine (num25_any _ _).mono ?_; rintro e w' ⟨rfl, rfl⟩
  go_wp2_with fail
  refine (E.out _ _ (by repeat (first | with_reducible exact Ext.refl _ | with_reducible apply Ext.drew | with_reducible apply Ext.drewN | with_reducible apply Ext.alloc | ((with_reducible refine Ext.setCell ?_ ?_ _); rotate_left; focus (first | (simp; done) | (simp; omega) | omega)) | with_reducible refine Ext.tr ?_ x1 | with_reducible refine Ext.tr ?_ x2 | with_reducible assumption)) (by simp)).mono ?_
  rintro e v2 ⟨rfl, x2⟩
  go_wp2
  go_ret
  exact ⟨rfl, (by repeat (first | with_reducible exact Ext.refl _ | with_reducible apply Ext.drew | with_reducible apply Ext.drewN | with_reducible apply Ext.alloc | ((with_reducible refine Ext.setCell ?_ ?_ _); rotate_left; focus (first | (simp; done) | (simp; omega) | omega)) | with_reducible refine Ext.tr ?_ x1 | with_reducible refine Ext.tr ?_ x2 | with_reducible assumption))⟩
end Go.Proofs.Ytmbgaonnknaclaa
