/- A root bit by bit: the plain law. ref90: Len, Root (of the second). -/
import Derived.Test.YtkegefnpmijfiaaGreatQRootL
import Derived.Test.YtkegefnpmijfiaaGreatQNat2
import Derived.Test.YtkegefnpmijfiaaGreatQRPow
import Derived.Test.YtkegefnpmijfiaaGreatQInts2
import Derived.Deep.LoopGhost
import Derived.WalkMore
namespace Go.Proofs.YtkegefnpmijfiaaGreat
/-- r is the root of n, rounded down, as far as the bits from k on. -/
def BitRoot (n r : Int) (k : Nat) : Prop := 0 ≤ r ∧ r * r ≤ n ∧ n < (r + 2 ^ k) * (r + 2 ^ k)
theorem two_succ (k : Nat) : (2 : Int) ^ (k + 1) = 2 ^ k + 2 ^ k := by rw [Int.pow_succ]; omega
theorem bit_take {n r : Int} {k : Nat} (h : BitRoot n r (k + 1)) (hs : (r + 2 ^ k) * (r + 2 ^ k) ≤ n) : BitRoot n (r + 2 ^ k) k := by
  obtain ⟨h0, _, h2⟩ := h
  have p := pow_pos' k
  rw [two_succ, ← Int.add_assoc] at h2
  exact ⟨by omega, hs, h2⟩
theorem bit_leave {n r : Int} {k : Nat} (h : BitRoot n r (k + 1)) (hs : n < (r + 2 ^ k) * (r + 2 ^ k)) : BitRoot n r k := ⟨h.1, h.2.1, hs⟩
theorem bit_end {n r : Int} (h : BitRoot n r 0) : IsRoot n r := by
  obtain ⟨h0, h1, h2⟩ := h
  exact ⟨h0, h1, by simpa using h2⟩
theorem bit_start {n : Int} {l : Nat} (n0 : 0 ≤ n) (h : n < 2 ^ l) : BitRoot n 0 (l / 2 + 2) := by
  refine ⟨Int.le_refl _, by simpa using n0, ?_⟩
  rw [Int.zero_add, ← Int.pow_add]
  have := pow_mono' (show (1 : Int) ≤ 2 by omega) (show l ≤ l / 2 + 2 + (l / 2 + 2) by omega)
  omega
end Go.Proofs.YtkegefnpmijfiaaGreat
namespace Go.Proofs.YtkegefnpmijfiaaGreat
open Go.RowKit
theorem RLen_ref {u : Value} {x : Int} {L : Nat} {w : World} (hu : IntAt w u x L) (x0 : 0 ≤ x) (hL : L ≤ 1000000) :
    Calls Tryz.prog 248 #[u] w fun e w' => ∃ l : Nat, e = .returned (.int .i64 l) ∧ Ext w w' ∧ BitLen x l := by
  obtain ⟨a1, k1, c1, rfl, m1⟩ := hu.form
  rw [mag_of x0] at m1
  have M1 := Lib.hid m1
  clear hu m1
  go_enter Tryz.func248, Tryz.ntmps248
  go_wp2_with fail
  refine (NLen_any (M1.out.ext Ext.q) hL).mono ?_
  rintro e w' ⟨l, rfl, rfl, bl⟩
  go_wp2
  go_ret
  exact ⟨l, rfl, Ext.q, bl⟩
theorem bit_60 {n r : Int} {k : Nat} (h : BitRoot n r k) (hn : n < 2 ^ 120) : r < 2 ^ 60 := by
  obtain ⟨h0, h1, -⟩ := h
  rcases Int.lt_or_le r (2 ^ 60) with h | h
  · exact h
  · have := sq_le (a := 2 ^ 60) (by decide) h
    have e : (2 : Int) ^ 60 * 2 ^ 60 = 2 ^ 120 := by decide
    omega
theorem bit_sum {n r : Int} {k j : Nat} (h : BitRoot n r k) (hn : n < 2 ^ 120) (hj : j ≤ 61) : 0 < r + 2 ^ j ∧ r + 2 ^ j < 2 ^ 62 := by
  have a := bit_60 h hn
  have b := pow_pos' j
  have c := pow_mono' (show (1 : Int) ≤ 2 by omega) hj
  have d : (2 : Int) ^ 60 + 2 ^ 61 < 2 ^ 62 := by decide
  have := h.1
  omega
theorem sq_bound {x : Int} (x0 : 0 ≤ x) (h : x < 2 ^ 62) (i : Nat) (hi : i ≤ 2) : x ^ i < 2 ^ (64 * 2) := by
  have e : (2 : Int) ^ 62 * 2 ^ 62 < 2 ^ (64 * 2) := by decide
  have s := sq_le x0 (Int.le_of_lt h)
  have e1 : (2 : Int) ^ 62 < 2 ^ (64 * 2) := by decide
  have e0 : (1 : Int) < 2 ^ (64 * 2) := by decide
  rcases (by omega : i = 0 ∨ i = 1 ∨ i = 2) with h | h | h <;> subst h
  · rw [Int.pow_zero]; exact e0
  · rw [Int.pow_one]; exact Int.lt_trans (by assumption) e1
  · rw [Int.pow_succ, Int.pow_one]; exact Int.lt_of_le_of_lt s e
set_option maxHeartbeats 4000000 in
set_option maxRecDepth 100000 in
theorem Root_ref {u : Value} {n : Int} {L : Nat} {w : World} (hu : IntAt w u n L) (n0 : 0 ≤ n) (hn : n < 2 ^ 120) (hL : 2 ≤ L) (hL2 : L ≤ 1000) :
    Calls Tryz.prog 195 #[u, .int .i64 2] w fun e w' => ∃ q r, e = .returned q ∧ Ext w w' ∧ IntAt w' q r 1 ∧ IsRoot n r ∧ NewInt w q := by
  obtain ⟨a1, k1, c1, rfl, -⟩ := hu.form
  rw [show decide (n < 0) = false by simp; omega] at hu ⊢
  have HU := Lib.hid hu
  have HN := Lib.hid hn
  have N0 := Lib.hid n0
  clear hu hn n0
  go_enter Tryz.func195, Tryz.ntmps195
  go_wp2_with fail; refine (From_new 0 _ (by omega) (by omega)).mono ?_; rintro e v1 ⟨q1, rfl, x1, h1⟩; obtain ⟨c1, f1⟩ := x1.rules; have z1 := x1.size; have lq := fun o => c1 (w.heap.size) o (by first | (simp; done) | (simp; omega) | omega); have mq := fun o => f1 (w.heap.size) o (by first | (simp; done) | (simp; omega) | omega); have k1_0_0 := lq 0; have q1_0_0 := mq 0; have k1_0_1 := lq 1; have q1_0_1 := mq 1; clear lq mq; have lq := fun o => c1 (w.heap.size + 1) o (by first | (simp; done) | (simp; omega) | omega); have mq := fun o => f1 (w.heap.size + 1) o (by first | (simp; done) | (simp; omega) | omega); have k1_1_0 := lq 0; have q1_1_0 := mq 0; have k1_1_1 := lq 1; have q1_1_1 := mq 1; clear lq mq; have z1_0 : w.heap.size < v1.heap.size := (by (try simp at z1); omega); have z1_1 : w.heap.size + 1 < v1.heap.size := (by (try simp at z1); omega); (try simp at z1); clear c1 f1; simp [go_sem, *] at k1_0_0 q1_0_0 k1_0_1 q1_0_1 k1_1_0 q1_1_0 k1_1_1 q1_1_1
  obtain ⟨h1, n1⟩ := h1
  obtain ⟨a, k, c, rfl, hf⟩ := h1.form
  have H1 := Lib.hid (show NatAt v1 (.slice a k c) 0 1 from hf)
  have N1 := Lib.hid (n1 _ _ rfl)
  have O1 := Lib.hid (NatAt.old H1.out (g := v1.heap.size) (Nat.le_refl _))
  clear h1 n1 hf
  go_wp2_with fail; refine (RLen_ref (HU.out.ext Ext.q) N0.out (by omega)).mono ?_; rintro e v2 ⟨l, rfl, x2, bl⟩; obtain ⟨c2, f2⟩ := x2.rules; have z2 := x2.size; have lq := fun o => c2 (w.heap.size) o (by first | (simp; done) | (simp; omega) | omega); have mq := fun o => f2 (w.heap.size) o (by first | (simp; done) | (simp; omega) | omega); have k2_0_0 := lq 0; have q2_0_0 := mq 0; have k2_0_1 := lq 1; have q2_0_1 := mq 1; clear lq mq; have lq := fun o => c2 (w.heap.size + 1) o (by first | (simp; done) | (simp; omega) | omega); have mq := fun o => f2 (w.heap.size + 1) o (by first | (simp; done) | (simp; omega) | omega); have k2_1_0 := lq 0; have q2_1_0 := mq 0; have k2_1_1 := lq 1; have q2_1_1 := mq 1; clear lq mq; have lq := fun o => c2 (v1.heap.size) o (by first | (simp; done) | (simp; omega) | omega); have mq := fun o => f2 (v1.heap.size) o (by first | (simp; done) | (simp; omega) | omega); have k2_v1_heap_size_0 := lq 0; have q2_v1_heap_size_0 := mq 0; have k2_v1_heap_size_1 := lq 1; have q2_v1_heap_size_1 := mq 1; clear lq mq; have z2_0 : w.heap.size < v2.heap.size := (by (try simp at z2); omega); have z2_1 : w.heap.size + 1 < v2.heap.size := (by (try simp at z2); omega); have z2_v1_heap_size : v1.heap.size < v2.heap.size := (by (try simp at z2); omega); (try simp at z2); clear c2 f2; simp [go_sem, *] at k2_0_0 q2_0_0 k2_0_1 q2_0_1 k2_1_0 q2_1_0 k2_1_1 q2_1_1 k2_v1_heap_size_0 q2_v1_heap_size_0 k2_v1_heap_size_1 q2_v1_heap_size_1
  have lb : l ≤ 120 := by
    rcases bl.2 with h | h
    · omega
    · rcases Nat.lt_or_ge 120 l with h' | h'
      · have := pow_mono' (show (1 : Int) ≤ 2 by omega) (show 120 ≤ l - 1 by omega)
        have := HN.out
        omega
      · exact h'
  have BS := Lib.hid (bit_start N0.out bl.1)
  have tq : (l : Int).tdiv 2 = ((l / 2 : Nat) : Int) := by rw [Int.tdiv_eq_ediv_of_nonneg (by omega)]; omega
  clear bl
  go_wp2_with fail
  go_loopg [6] (l / 2 + 2) (fun g i wr => ∃ (r : Int) (a : Option Addr) (k c : Nat), g ≤ 62 ∧ BitRoot n r g ∧ i = .int .i64 ((g : Int) - 1) ∧ wr.cell? ⟨w.heap.size, 0, none⟩ = some (.bool false) ∧ wr.cell? ⟨w.heap.size, 1, none⟩ = some (.slice a1 k1 c1) ∧ wr.cell? ⟨w.heap.size + 1, 0, none⟩ = some (.bool false) ∧ wr.cell? ⟨w.heap.size + 1, 1, none⟩ = some (.slice none 0 0) ∧ wr.cell? ⟨v1.heap.size, 0, none⟩ = some (.bool false) ∧ wr.cell? ⟨v1.heap.size, 1, none⟩ = some (.slice a k c) ∧ wr.frozen? ⟨w.heap.size + 1, 0, none⟩ = false ∧ wr.frozen? ⟨w.heap.size + 1, 1, none⟩ = false ∧ wr.frozen? ⟨v1.heap.size, 0, none⟩ = false ∧ wr.frozen? ⟨v1.heap.size, 1, none⟩ = false ∧ NatAt wr (.slice a k c) r 1 ∧ New w (.slice a k c) ∧ Off (w.heap.size + 1) (.slice a k c) ∧ v1.heap.size < wr.heap.size ∧ Ext w wr)
  case atStart =>
    have NW := N1.out.old (w := w) (by first | (simp; done) | (simp; omega) | omega)
    have OX := N1.out.off (g := w.heap.size + 1) (by first | (simp; done) | (simp; omega) | omega)
    exact ⟨0, a, k, c, by omega, BS.out, by simp; omega, by simp [go_sem, *], by simp [go_sem, *], by simp [go_sem, *], by simp [go_sem, *], by simp [go_sem, *], by simp [go_sem, *], by simp [go_sem, *], by simp [go_sem, *], by simp [go_sem, *], by simp [go_sem, *], (by repeat (first | with_reducible exact H1.out | with_reducible refine NatAt.alloc' ?_ | with_reducible refine NatAt.drew' ?_ | with_reducible refine NatAt.drewN' ?_ | with_reducible refine NatAt.off ?_ O1.out | with_reducible refine NatAt.ext ?_ x1 | with_reducible refine NatAt.ext ?_ x2 | with_reducible refine NatAt.ext ?_ x4 | with_reducible refine NatAt.ext ?_ x5 | with_reducible refine NatAt.ext ?_ x6 | with_reducible refine NatAt.ext ?_ x7 | with_reducible refine NatAt.ext ?_ x8 | with_reducible refine NatAt.ext ?_ hx | with_reducible refine NatAt.ext ?_ hext)), NW, OX, (by first | (simp; done) | (simp; omega) | omega), Ext.q⟩
  case round =>
    obtain ⟨r, a, k, c, hg, hbr, rfl, t0, t1, t2, t3, t4, t5, t6, t7, t8, t9, hx, hnw, hox, tz, hext⟩ := hrel
    have HX := Lib.hid hx
    have HNW := Lib.hid hnw
    have HOX := Lib.hid hox
    have r0 := hbr.1
    have BR := Lib.hid hbr
    have tw1 : w.heap.size + 1 < wr.heap.size := by omega
    have tw2 : w.heap.size < wr.heap.size := by omega
    have MR := Lib.hid (mag_of r0)
    have SR := Lib.hid (show false = decide (r < 0) by symm; simp; omega)
    have HXI := Lib.hid (show NatAt wr (.slice a k c) (mag r) 1 by rw [MR.out]; exact HX.out)
    have HXT := Lib.hid (IntAt.of SR.out HXI.out)
    clear hx hnw hox H1 N1 O1 BS hbr tq
    rcases Nat.eq_zero_or_pos gk with h0 | hp
    · subst h0
      go_wp2
      simp [bodyPost, results, Tryz.results195, go_sem, *]
      exact ⟨Ext.q, r, IntAt.of SR.out (by repeat (first | with_reducible exact HXI.out | with_reducible refine NatAt.alloc' ?_ | with_reducible refine NatAt.drew' ?_ | with_reducible refine NatAt.drewN' ?_ | with_reducible refine NatAt.off ?_ HOX.out | with_reducible refine NatAt.ext ?_ x1 | with_reducible refine NatAt.ext ?_ x2 | with_reducible refine NatAt.ext ?_ x4 | with_reducible refine NatAt.ext ?_ x5 | with_reducible refine NatAt.ext ?_ x6 | with_reducible refine NatAt.ext ?_ x7 | with_reducible refine NatAt.ext ?_ x8 | with_reducible refine NatAt.ext ?_ hx | with_reducible refine NatAt.ext ?_ hext)), bit_end BR.out, NewInt.mk HNW.out⟩
    · obtain ⟨j, rfl⟩ : ∃ j, gk = j + 1 := ⟨gk - 1, by omega⟩
      have je : ((j + 1 : Nat) : Int) - 1 = j := by omega
      rw [je]
      have BSM := Lib.hid (bit_sum BR.out HN.out (j := j) (by omega))
      have jj : j ≤ 61 := by omega
      have j1 : (0 : Int) ≤ j := by omega
      have LJ := Lib.hid (fun (v : World) (q : Value) (h : IntAt v q 1 1) => Left_p2r (n := j) (L' := 2) h (by omega) (by omega) (by omega) (by omega))
      rw [show p2 (j : Int) = 2 ^ j from rfl, Int.one_mul] at LJ
      go_wp2_with fail
      go_cut [7] (fun s7 wx => ∃ g4 a4 k4 c4, s7 = .pointer (some ⟨g4, 0, none⟩) ∧ wx.cell? ⟨w.heap.size, 0, none⟩ = some (.bool false) ∧ wx.cell? ⟨w.heap.size, 1, none⟩ = some (.slice a1 k1 c1) ∧ wx.cell? ⟨w.heap.size + 1, 0, none⟩ = some (.bool false) ∧ wx.cell? ⟨w.heap.size + 1, 1, none⟩ = some (.slice none 0 0) ∧ wx.cell? ⟨v1.heap.size, 0, none⟩ = some (.bool false) ∧ wx.cell? ⟨v1.heap.size, 1, none⟩ = some (.slice a k c) ∧ wx.cell? ⟨g4, 0, none⟩ = some (.bool false) ∧ wx.cell? ⟨g4, 1, none⟩ = some (.slice a4 k4 c4) ∧ wx.frozen? ⟨w.heap.size + 1, 0, none⟩ = false ∧ wx.frozen? ⟨w.heap.size + 1, 1, none⟩ = false ∧ wx.frozen? ⟨v1.heap.size, 0, none⟩ = false ∧ wx.frozen? ⟨v1.heap.size, 1, none⟩ = false ∧ NatAt wx (.slice a4 k4 c4) (r + 2 ^ j) 1 ∧ New w (.slice a4 k4 c4) ∧ Off (w.heap.size + 1) (.slice a4 k4 c4) ∧ Off v1.heap.size (.slice a4 k4 c4) ∧ g4 < wx.heap.size ∧ v1.heap.size < wx.heap.size ∧ Ext w wx ∧ Ext wr wx)
      case first => as_aux_lemma =>
        go_region_held3 (fun w' => w'.cell? ⟨w.heap.size, 0, none⟩ = some (.bool false) ∧ w'.cell? ⟨w.heap.size, 1, none⟩ = some (.slice a1 k1 c1) ∧ w'.cell? ⟨w.heap.size + 1, 0, none⟩ = some (.bool false) ∧ w'.cell? ⟨w.heap.size + 1, 1, none⟩ = some (.slice none 0 0) ∧ w'.cell? ⟨v1.heap.size, 0, none⟩ = some (.bool false) ∧ w'.cell? ⟨v1.heap.size, 1, none⟩ = some (.slice a k c) ∧ v1.heap.size < w'.heap.size ∧ Ext w w')
          (refine ⟨?_, ?_, ?_, ?_, ?_, ?_, ?_, ?_⟩ <;> first | (simp [go_sem, *]; done) | omega | (simp at z1; omega) | (simp at z2; omega) | (simp at z3; omega) | (simp at z4; omega) | exact Ext.q)
          (first
            | ((go_at_call 67; refine (From_new 1 _ (by omega) (by omega)).mono ?_; rintro e v4 ⟨q4, rfl, x4, h4⟩; obtain ⟨c4, f4⟩ := x4.rules; have z4 := x4.size; (try (have k4_wr_heap_size_0 := c4 (wr.heap.size) 0 (by first | (simp; done) | (simp; omega) | omega); have q4_wr_heap_size_0 := f4 (wr.heap.size) 0 (by first | (simp; done) | (simp; omega) | omega); have k4_wr_heap_size_1 := c4 (wr.heap.size) 1 (by first | (simp; done) | (simp; omega) | omega); have q4_wr_heap_size_1 := f4 (wr.heap.size) 1 (by first | (simp; done) | (simp; omega) | omega); have z4_wr_heap_size : wr.heap.size < v4.heap.size := (by (try simp at z4); omega); simp [go_sem, *, -c4, -f4] at k4_wr_heap_size_0 q4_wr_heap_size_0 k4_wr_heap_size_1 q4_wr_heap_size_1)); (try (have k4_v4_heap_size_0 := c4 (v4.heap.size) 0 (by first | (simp; done) | (simp; omega) | omega); have q4_v4_heap_size_0 := f4 (v4.heap.size) 0 (by first | (simp; done) | (simp; omega) | omega); have k4_v4_heap_size_1 := c4 (v4.heap.size) 1 (by first | (simp; done) | (simp; omega) | omega); have q4_v4_heap_size_1 := f4 (v4.heap.size) 1 (by first | (simp; done) | (simp; omega) | omega); have z4_v4_heap_size : v4.heap.size < v4.heap.size := (by (try simp at z4); omega); simp [go_sem, *, -c4, -f4] at k4_v4_heap_size_0 q4_v4_heap_size_0 k4_v4_heap_size_1 q4_v4_heap_size_1)); (try (have k4_v5_heap_size_0 := c4 (v5.heap.size) 0 (by first | (simp; done) | (simp; omega) | omega); have q4_v5_heap_size_0 := f4 (v5.heap.size) 0 (by first | (simp; done) | (simp; omega) | omega); have k4_v5_heap_size_1 := c4 (v5.heap.size) 1 (by first | (simp; done) | (simp; omega) | omega); have q4_v5_heap_size_1 := f4 (v5.heap.size) 1 (by first | (simp; done) | (simp; omega) | omega); have z4_v5_heap_size : v5.heap.size < v4.heap.size := (by (try simp at z4); omega); simp [go_sem, *, -c4, -f4] at k4_v5_heap_size_0 q4_v5_heap_size_0 k4_v5_heap_size_1 q4_v5_heap_size_1)); have lq := fun o => c4 (w.heap.size) o (by first | (simp; done) | (simp; omega) | omega); have mq := fun o => f4 (w.heap.size) o (by first | (simp; done) | (simp; omega) | omega); have k4_0_0 := lq 0; have q4_0_0 := mq 0; have k4_0_1 := lq 1; have q4_0_1 := mq 1; clear lq mq; have lq := fun o => c4 (w.heap.size + 1) o (by first | (simp; done) | (simp; omega) | omega); have mq := fun o => f4 (w.heap.size + 1) o (by first | (simp; done) | (simp; omega) | omega); have k4_1_0 := lq 0; have q4_1_0 := mq 0; have k4_1_1 := lq 1; have q4_1_1 := mq 1; clear lq mq; have lq := fun o => c4 (v1.heap.size) o (by first | (simp; done) | (simp; omega) | omega); have mq := fun o => f4 (v1.heap.size) o (by first | (simp; done) | (simp; omega) | omega); have k4_v1_heap_size_0 := lq 0; have q4_v1_heap_size_0 := mq 0; have k4_v1_heap_size_1 := lq 1; have q4_v1_heap_size_1 := mq 1; clear lq mq; have z4_0 : w.heap.size < v4.heap.size := (by (try simp at z4); omega); have z4_1 : w.heap.size + 1 < v4.heap.size := (by (try simp at z4); omega); have z4_v1_heap_size : v1.heap.size < v4.heap.size := (by (try simp at z4); omega); (try simp at z4); clear c4 f4; simp [go_sem, *] at k4_0_0 q4_0_0 k4_0_1 q4_0_1 k4_1_0 q4_1_0 k4_1_1 q4_1_1 k4_v1_heap_size_0 q4_v1_heap_size_0 k4_v1_heap_size_1 q4_v1_heap_size_1); have H4 := Lib.hid h4.1; clear h4)
            | ((go_at_call 74; refine (LJ.out _ _ (H4.out.ext Ext.q)).mono ?_; rintro e v5 ⟨q5, rfl, x5, h5⟩; obtain ⟨c5, f5⟩ := x5.rules; have z5 := x5.size; (try (have k5_wr_heap_size_0 := c5 (wr.heap.size) 0 (by first | (simp; done) | (simp; omega) | omega); have q5_wr_heap_size_0 := f5 (wr.heap.size) 0 (by first | (simp; done) | (simp; omega) | omega); have k5_wr_heap_size_1 := c5 (wr.heap.size) 1 (by first | (simp; done) | (simp; omega) | omega); have q5_wr_heap_size_1 := f5 (wr.heap.size) 1 (by first | (simp; done) | (simp; omega) | omega); have z5_wr_heap_size : wr.heap.size < v5.heap.size := (by (try simp at z5); omega); simp [go_sem, *, -c5, -f5] at k5_wr_heap_size_0 q5_wr_heap_size_0 k5_wr_heap_size_1 q5_wr_heap_size_1)); (try (have k5_v4_heap_size_0 := c5 (v4.heap.size) 0 (by first | (simp; done) | (simp; omega) | omega); have q5_v4_heap_size_0 := f5 (v4.heap.size) 0 (by first | (simp; done) | (simp; omega) | omega); have k5_v4_heap_size_1 := c5 (v4.heap.size) 1 (by first | (simp; done) | (simp; omega) | omega); have q5_v4_heap_size_1 := f5 (v4.heap.size) 1 (by first | (simp; done) | (simp; omega) | omega); have z5_v4_heap_size : v4.heap.size < v5.heap.size := (by (try simp at z5); omega); simp [go_sem, *, -c5, -f5] at k5_v4_heap_size_0 q5_v4_heap_size_0 k5_v4_heap_size_1 q5_v4_heap_size_1)); (try (have k5_v5_heap_size_0 := c5 (v5.heap.size) 0 (by first | (simp; done) | (simp; omega) | omega); have q5_v5_heap_size_0 := f5 (v5.heap.size) 0 (by first | (simp; done) | (simp; omega) | omega); have k5_v5_heap_size_1 := c5 (v5.heap.size) 1 (by first | (simp; done) | (simp; omega) | omega); have q5_v5_heap_size_1 := f5 (v5.heap.size) 1 (by first | (simp; done) | (simp; omega) | omega); have z5_v5_heap_size : v5.heap.size < v5.heap.size := (by (try simp at z5); omega); simp [go_sem, *, -c5, -f5] at k5_v5_heap_size_0 q5_v5_heap_size_0 k5_v5_heap_size_1 q5_v5_heap_size_1)); have lq := fun o => c5 (w.heap.size) o (by first | (simp; done) | (simp; omega) | omega); have mq := fun o => f5 (w.heap.size) o (by first | (simp; done) | (simp; omega) | omega); have k5_0_0 := lq 0; have q5_0_0 := mq 0; have k5_0_1 := lq 1; have q5_0_1 := mq 1; clear lq mq; have lq := fun o => c5 (w.heap.size + 1) o (by first | (simp; done) | (simp; omega) | omega); have mq := fun o => f5 (w.heap.size + 1) o (by first | (simp; done) | (simp; omega) | omega); have k5_1_0 := lq 0; have q5_1_0 := mq 0; have k5_1_1 := lq 1; have q5_1_1 := mq 1; clear lq mq; have lq := fun o => c5 (v1.heap.size) o (by first | (simp; done) | (simp; omega) | omega); have mq := fun o => f5 (v1.heap.size) o (by first | (simp; done) | (simp; omega) | omega); have k5_v1_heap_size_0 := lq 0; have q5_v1_heap_size_0 := mq 0; have k5_v1_heap_size_1 := lq 1; have q5_v1_heap_size_1 := mq 1; clear lq mq; have z5_0 : w.heap.size < v5.heap.size := (by (try simp at z5); omega); have z5_1 : w.heap.size + 1 < v5.heap.size := (by (try simp at z5); omega); have z5_v1_heap_size : v1.heap.size < v5.heap.size := (by (try simp at z5); omega); (try simp at z5); clear c5 f5; simp [go_sem, *] at k5_0_0 q5_0_0 k5_0_1 q5_0_1 k5_1_0 q5_1_0 k5_1_1 q5_1_1 k5_v1_heap_size_0 q5_v1_heap_size_0 k5_v1_heap_size_1 q5_v1_heap_size_1); have H5 := Lib.hid h5.1; clear h5 H4 LJ)
            | ((go_at_call 68; refine (Plus_ref (IntAt.mono (HXT.out.ext Ext.q) (show 1 ≤ 2 by omega)) (H5.out.ext Ext.q) (by omega)).mono ?_; rintro e v6 ⟨q6, rfl, x6, h6⟩; obtain ⟨c6, f6⟩ := x6.rules; have z6 := x6.size; (try (have k6_wr_heap_size_0 := c6 (wr.heap.size) 0 (by first | (simp; done) | (simp; omega) | omega); have q6_wr_heap_size_0 := f6 (wr.heap.size) 0 (by first | (simp; done) | (simp; omega) | omega); have k6_wr_heap_size_1 := c6 (wr.heap.size) 1 (by first | (simp; done) | (simp; omega) | omega); have q6_wr_heap_size_1 := f6 (wr.heap.size) 1 (by first | (simp; done) | (simp; omega) | omega); have z6_wr_heap_size : wr.heap.size < v6.heap.size := (by (try simp at z6); omega); simp [go_sem, *, -c6, -f6] at k6_wr_heap_size_0 q6_wr_heap_size_0 k6_wr_heap_size_1 q6_wr_heap_size_1)); (try (have k6_v4_heap_size_0 := c6 (v4.heap.size) 0 (by first | (simp; done) | (simp; omega) | omega); have q6_v4_heap_size_0 := f6 (v4.heap.size) 0 (by first | (simp; done) | (simp; omega) | omega); have k6_v4_heap_size_1 := c6 (v4.heap.size) 1 (by first | (simp; done) | (simp; omega) | omega); have q6_v4_heap_size_1 := f6 (v4.heap.size) 1 (by first | (simp; done) | (simp; omega) | omega); have z6_v4_heap_size : v4.heap.size < v6.heap.size := (by (try simp at z6); omega); simp [go_sem, *, -c6, -f6] at k6_v4_heap_size_0 q6_v4_heap_size_0 k6_v4_heap_size_1 q6_v4_heap_size_1)); (try (have k6_v5_heap_size_0 := c6 (v5.heap.size) 0 (by first | (simp; done) | (simp; omega) | omega); have q6_v5_heap_size_0 := f6 (v5.heap.size) 0 (by first | (simp; done) | (simp; omega) | omega); have k6_v5_heap_size_1 := c6 (v5.heap.size) 1 (by first | (simp; done) | (simp; omega) | omega); have q6_v5_heap_size_1 := f6 (v5.heap.size) 1 (by first | (simp; done) | (simp; omega) | omega); have z6_v5_heap_size : v5.heap.size < v6.heap.size := (by (try simp at z6); omega); simp [go_sem, *, -c6, -f6] at k6_v5_heap_size_0 q6_v5_heap_size_0 k6_v5_heap_size_1 q6_v5_heap_size_1)); have lq := fun o => c6 (w.heap.size) o (by first | (simp; done) | (simp; omega) | omega); have mq := fun o => f6 (w.heap.size) o (by first | (simp; done) | (simp; omega) | omega); have k6_0_0 := lq 0; have q6_0_0 := mq 0; have k6_0_1 := lq 1; have q6_0_1 := mq 1; clear lq mq; have lq := fun o => c6 (w.heap.size + 1) o (by first | (simp; done) | (simp; omega) | omega); have mq := fun o => f6 (w.heap.size + 1) o (by first | (simp; done) | (simp; omega) | omega); have k6_1_0 := lq 0; have q6_1_0 := mq 0; have k6_1_1 := lq 1; have q6_1_1 := mq 1; clear lq mq; have lq := fun o => c6 (v1.heap.size) o (by first | (simp; done) | (simp; omega) | omega); have mq := fun o => f6 (v1.heap.size) o (by first | (simp; done) | (simp; omega) | omega); have k6_v1_heap_size_0 := lq 0; have q6_v1_heap_size_0 := mq 0; have k6_v1_heap_size_1 := lq 1; have q6_v1_heap_size_1 := mq 1; clear lq mq; have z6_0 : w.heap.size < v6.heap.size := (by (try simp at z6); omega); have z6_1 : w.heap.size + 1 < v6.heap.size := (by (try simp at z6); omega); have z6_v1_heap_size : v1.heap.size < v6.heap.size := (by (try simp at z6); omega); (try simp at z6); clear c6 f6; simp [go_sem, *] at k6_0_0 q6_0_0 k6_0_1 q6_0_1 k6_1_0 q6_1_0 k6_1_1 q6_1_1 k6_v1_heap_size_0 q6_v1_heap_size_0 k6_v1_heap_size_1 q6_v1_heap_size_1); obtain ⟨h6, n6⟩ := h6; obtain ⟨a4, k4, c4, rfl, hf6⟩ := h6.form; have H6 := Lib.hid hf6; have N6 := Lib.hid (n6 _ _ rfl); clear h6 n6 hf6 H5))
        all_goals
          have s6 : decide (r + 2 ^ j < 0) = false := by have := BSM.out.1; simp; omega
          have m6 : mag (r + 2 ^ j) = r + 2 ^ j := mag_of (by have := BSM.out.1; omega)
          have H6' := Lib.hid (show NatAt v6 (.slice a4 k4 c4) (r + 2 ^ j) 1 by rw [← m6]; exact H6.out.small (by rw [m6]; exact Int.lt_trans BSM.out.2 (by decide)))
          clear m6
          go_wp2_with fail
          (try have A0 := Lib.hid (N6.out.off (g := wr.heap.size) (by first | (simp; done) | (simp; omega) | omega))); (try have A1 := Lib.hid (N6.out.off (g := v4.heap.size) (by first | (simp; done) | (simp; omega) | omega))); (try have A2 := Lib.hid (N6.out.off (g := v5.heap.size) (by first | (simp; done) | (simp; omega) | omega))); (try have A3 := Lib.hid (NatAt.old H6'.out (g := v6.heap.size) (by first | (simp; done) | (simp; omega) | omega)))
          have ON := N6.out.old (w := w) (by first | (simp; done) | (simp; omega) | omega)
          have OR := N6.out.off (g := w.heap.size + 1) (by first | (simp; done) | (simp; omega) | omega)
          have OG := N6.out.off (g := v1.heap.size) (by first | (simp; done) | (simp; omega) | omega)
          go_meet
          exact ⟨_, a4, k4, c4, rfl, by simp [go_sem, *], by simp [go_sem, *], by simp [go_sem, *], by simp [go_sem, *], by simp [go_sem, *], by simp [go_sem, *], by simp [go_sem, *], by simp [go_sem, *], by simp [go_sem, *], by simp [go_sem, *], by simp [go_sem, *], by simp [go_sem, *], (by repeat (first | with_reducible exact H6'.out | with_reducible refine NatAt.alloc' ?_ | with_reducible refine NatAt.drew' ?_ | with_reducible refine NatAt.drewN' ?_ | with_reducible refine NatAt.off ?_ A0.out | with_reducible refine NatAt.off ?_ A1.out | with_reducible refine NatAt.off ?_ A2.out | with_reducible refine NatAt.off ?_ A3.out | with_reducible refine NatAt.ext ?_ x1 | with_reducible refine NatAt.ext ?_ x2 | with_reducible refine NatAt.ext ?_ x4 | with_reducible refine NatAt.ext ?_ x5 | with_reducible refine NatAt.ext ?_ x6 | with_reducible refine NatAt.ext ?_ x7 | with_reducible refine NatAt.ext ?_ x8 | with_reducible refine NatAt.ext ?_ hx | with_reducible refine NatAt.ext ?_ hext)), ON, OR, OG, (by first | (simp; done) | (simp; omega) | omega), (by first | (simp; done) | (simp; omega) | omega), Ext.q, Ext.q⟩
      case rest => as_aux_lemma =>
        clear t0 t1 t2 t3 t4 t5 t6 t7 t8 t9 LJ
        obtain ⟨g4, a4, k4, c4, rfl, e0, e1, e2, e3, e4, e5, e6, e7, e8, e9, e10, e11, hy, hny, hoy, hgy, gz, vz, hext2, hw⟩ := hcut
        clear hext
        have hext := hext2
        clear hext2
        have HY := Lib.hid hy
        have NY := Lib.hid hny
        have OY := Lib.hid hoy
        have GY := Lib.hid hgy
        clear hy hny hoy hgy
        have tw3 : w.heap.size + 1 < wc.heap.size := by omega
        have tw4 : w.heap.size < wc.heap.size := by omega
        obtain ⟨y0, y1⟩ := BSM.out
        have BT := Lib.hid (bit_take (n := n) (r := r) (k := j) BR.out)
        have BL := Lib.hid (bit_leave (n := n) (r := r) (k := j) BR.out)
        clear BR BSM
        generalize r + 2 ^ j = y at *
        have HYT : Hid (IntAt wc (.agg #[.bool false, .slice a4 k4 c4]) y 1) := Lib.hid (IntAt.of (by symm; simp; omega) (by rw [mag_of (Int.le_of_lt y0)]; exact HY.out))
        have PB := Lib.hid (sq_bound (Int.le_of_lt y0) y1)
        have PR := Lib.hid (fun (v : World) (q : Value) (h : IntAt v q y 2) => Pow_ref (n := 2) h (Int.le_of_lt y0) (by omega) (by omega) (by omega) PB.out)
        rw [show ((2 : Nat) : Int) = 2 from rfl, show y ^ 2 = y * y by rw [Int.pow_succ, Int.pow_one]] at PR
        clear PB y0 y1
        go_wp2_with fail
        go_cut [28] (fun s28 wx => s28 = .bool (decide (cmpI (y * y) n ≤ 0)) ∧ wx.cell? ⟨w.heap.size, 0, none⟩ = some (.bool false) ∧ wx.cell? ⟨w.heap.size, 1, none⟩ = some (.slice a1 k1 c1) ∧ wx.cell? ⟨w.heap.size + 1, 0, none⟩ = some (.bool false) ∧ wx.cell? ⟨w.heap.size + 1, 1, none⟩ = some (.slice none 0 0) ∧ wx.cell? ⟨v1.heap.size, 0, none⟩ = some (.bool false) ∧ wx.cell? ⟨v1.heap.size, 1, none⟩ = some (.slice a k c) ∧ wx.cell? ⟨g4, 0, none⟩ = some (.bool false) ∧ wx.cell? ⟨g4, 1, none⟩ = some (.slice a4 k4 c4) ∧ wx.frozen? ⟨w.heap.size + 1, 0, none⟩ = false ∧ wx.frozen? ⟨w.heap.size + 1, 1, none⟩ = false ∧ wx.frozen? ⟨v1.heap.size, 0, none⟩ = false ∧ wx.frozen? ⟨v1.heap.size, 1, none⟩ = false ∧ g4 < wx.heap.size ∧ v1.heap.size < wx.heap.size ∧ Ext w wx ∧ Ext wc wx)
        case first => as_aux_lemma =>
          go_region_held3 (fun w' => w'.cell? ⟨w.heap.size, 0, none⟩ = some (.bool false) ∧ w'.cell? ⟨w.heap.size, 1, none⟩ = some (.slice a1 k1 c1) ∧ w'.cell? ⟨g4, 0, none⟩ = some (.bool false) ∧ w'.cell? ⟨g4, 1, none⟩ = some (.slice a4 k4 c4) ∧ v1.heap.size < w'.heap.size ∧ g4 < w'.heap.size ∧ Ext w w')
            (refine ⟨?_, ?_, ?_, ?_, ?_, ?_, ?_⟩ <;> first | (simp [go_sem, *]; done) | omega | (simp at z1; omega) | (simp at z2; omega) | (simp at z3; omega) | (simp at z4; omega) | exact Ext.q)
            (first
              | ((go_at_call 116; refine (PR.out _ _ (IntAt.mono (HYT.out.ext Ext.q) (show 1 ≤ 2 by omega))).mono ?_; rintro e v7 ⟨q7, rfl, x7, h7⟩; obtain ⟨c7, f7⟩ := x7.rules; have z7 := x7.size; have lq := fun o => c7 (w.heap.size) o (by first | (simp; done) | (simp; omega) | omega); have mq := fun o => f7 (w.heap.size) o (by first | (simp; done) | (simp; omega) | omega); have k7_0_0 := lq 0; have q7_0_0 := mq 0; have k7_0_1 := lq 1; have q7_0_1 := mq 1; clear lq mq; have lq := fun o => c7 (w.heap.size + 1) o (by first | (simp; done) | (simp; omega) | omega); have mq := fun o => f7 (w.heap.size + 1) o (by first | (simp; done) | (simp; omega) | omega); have k7_1_0 := lq 0; have q7_1_0 := mq 0; have k7_1_1 := lq 1; have q7_1_1 := mq 1; clear lq mq; have lq := fun o => c7 (v1.heap.size) o (by first | (simp; done) | (simp; omega) | omega); have mq := fun o => f7 (v1.heap.size) o (by first | (simp; done) | (simp; omega) | omega); have k7_v1_heap_size_0 := lq 0; have q7_v1_heap_size_0 := mq 0; have k7_v1_heap_size_1 := lq 1; have q7_v1_heap_size_1 := mq 1; clear lq mq; have lq := fun o => c7 (g4) o (by first | (simp; done) | (simp; omega) | omega); have mq := fun o => f7 (g4) o (by first | (simp; done) | (simp; omega) | omega); have k7_g4_0 := lq 0; have q7_g4_0 := mq 0; have k7_g4_1 := lq 1; have q7_g4_1 := mq 1; clear lq mq; have z7_0 : w.heap.size < v7.heap.size := (by (try simp at z7); omega); have z7_1 : w.heap.size + 1 < v7.heap.size := (by (try simp at z7); omega); have z7_v1_heap_size : v1.heap.size < v7.heap.size := (by (try simp at z7); omega); have z7_g4 : g4 < v7.heap.size := (by (try simp at z7); omega); (try simp at z7); clear c7 f7; simp [go_sem, *] at k7_0_0 q7_0_0 k7_0_1 q7_0_1 k7_1_0 q7_1_0 k7_1_1 q7_1_1 k7_v1_heap_size_0 q7_v1_heap_size_0 k7_v1_heap_size_1 q7_v1_heap_size_1 k7_g4_0 q7_g4_0 k7_g4_1 q7_g4_1); have H7 := Lib.hid h7.1; clear h7 PR)
              | ((go_at_call 71; refine (Cmp_ref (IntAt.mono (H7.out.ext Ext.q) hL) (HU.out.ext Ext.q) (by omega)).mono ?_; rintro e v8 ⟨rfl, x8⟩; obtain ⟨c8, f8⟩ := x8.rules; have z8 := x8.size; have lq := fun o => c8 (w.heap.size) o (by first | (simp; done) | (simp; omega) | omega); have mq := fun o => f8 (w.heap.size) o (by first | (simp; done) | (simp; omega) | omega); have k8_0_0 := lq 0; have q8_0_0 := mq 0; have k8_0_1 := lq 1; have q8_0_1 := mq 1; clear lq mq; have lq := fun o => c8 (w.heap.size + 1) o (by first | (simp; done) | (simp; omega) | omega); have mq := fun o => f8 (w.heap.size + 1) o (by first | (simp; done) | (simp; omega) | omega); have k8_1_0 := lq 0; have q8_1_0 := mq 0; have k8_1_1 := lq 1; have q8_1_1 := mq 1; clear lq mq; have lq := fun o => c8 (v1.heap.size) o (by first | (simp; done) | (simp; omega) | omega); have mq := fun o => f8 (v1.heap.size) o (by first | (simp; done) | (simp; omega) | omega); have k8_v1_heap_size_0 := lq 0; have q8_v1_heap_size_0 := mq 0; have k8_v1_heap_size_1 := lq 1; have q8_v1_heap_size_1 := mq 1; clear lq mq; have lq := fun o => c8 (g4) o (by first | (simp; done) | (simp; omega) | omega); have mq := fun o => f8 (g4) o (by first | (simp; done) | (simp; omega) | omega); have k8_g4_0 := lq 0; have q8_g4_0 := mq 0; have k8_g4_1 := lq 1; have q8_g4_1 := mq 1; clear lq mq; have z8_0 : w.heap.size < v8.heap.size := (by (try simp at z8); omega); have z8_1 : w.heap.size + 1 < v8.heap.size := (by (try simp at z8); omega); have z8_v1_heap_size : v1.heap.size < v8.heap.size := (by (try simp at z8); omega); have z8_g4 : g4 < v8.heap.size := (by (try simp at z8); omega); (try simp at z8); clear c8 f8; simp [go_sem, *] at k8_0_0 q8_0_0 k8_0_1 q8_0_1 k8_1_0 q8_1_0 k8_1_1 q8_1_1 k8_v1_heap_size_0 q8_v1_heap_size_0 k8_v1_heap_size_1 q8_v1_heap_size_1 k8_g4_0 q8_g4_0 k8_g4_1 q8_g4_1); clear H7))
          all_goals
            go_wp2_with fail
            go_meet
            exact ⟨rfl, by simp [go_sem, *], by simp [go_sem, *], by simp [go_sem, *], by simp [go_sem, *], by simp [go_sem, *], by simp [go_sem, *], by simp [go_sem, *], by simp [go_sem, *], by simp [go_sem, *], by simp [go_sem, *], by simp [go_sem, *], by simp [go_sem, *], (by first | (simp; done) | (simp; omega) | omega), (by first | (simp; done) | (simp; omega) | omega), Ext.q, Ext.q⟩
        case rest => as_aux_lemma =>
          clear e0 e1 e2 e3 e4 e5 e6 e7 e8 e9 e10 e11 PR HYT
          have wz := hw.size
          obtain ⟨rfl, e0, e1, e2, e3, e4, e5, e6, e7, e8, e9, e10, e11, gz2, vz2, hext2, hx3⟩ := hcut
          clear hext
          have hext := hext2
          have HY2 := Lib.hid (HY.out.ext hx3)
          have HX2 := Lib.hid ((HX.out.ext hw).ext hx3)
          clear hext2 hw hx3 HXI HXT MR SR
          rcases Int.lt_or_le n (y * y) with hs | hs
          · have ce : decide (cmpI (y * y) n ≤ 0) = false := by rw [cmpI_gt hs]; decide
            rw [ce]
            have BE := Lib.hid (BL.out hs)
            clear hs ce BL BT
            go_wp2_with fail
            go_roundg j
            case rel => exact ⟨r, a, k, c, by omega, BE.out, by go_num, by simp [go_sem, *], by simp [go_sem, *], by simp [go_sem, *], by simp [go_sem, *], by simp [go_sem, *], by simp [go_sem, *], by simp [go_sem, *], by simp [go_sem, *], by simp [go_sem, *], by simp [go_sem, *], HX2.out, HNW.out, HOX.out, (by first | (simp; done) | (simp; omega) | omega), Ext.q⟩
            case measure => omega
          · have ce : decide (cmpI (y * y) n ≤ 0) = true := by
              rcases Int.lt_or_eq_of_le hs with h | h
              · rw [cmpI_lt h]; decide
              · rw [h, cmpI_eq]; decide
            rw [ce]
            have BE := Lib.hid (BT.out hs)
            clear hs ce BL BT
            go_wp2_with fail
            go_roundg j
            case rel => exact ⟨y, a4, k4, c4, by omega, BE.out, by go_num, by simp [go_sem, *], by simp [go_sem, *], by simp [go_sem, *], by simp [go_sem, *], by simp [go_sem, *], by simp [go_sem, *], by simp [go_sem, *], by simp [go_sem, *], by simp [go_sem, *], by simp [go_sem, *], (by repeat (first | with_reducible exact HY2.out | with_reducible refine NatAt.alloc' ?_ | with_reducible refine NatAt.drew' ?_ | with_reducible refine NatAt.drewN' ?_ | with_reducible refine NatAt.off ?_ GY.out | with_reducible refine NatAt.ext ?_ x1 | with_reducible refine NatAt.ext ?_ x2 | with_reducible refine NatAt.ext ?_ x4 | with_reducible refine NatAt.ext ?_ x5 | with_reducible refine NatAt.ext ?_ x6 | with_reducible refine NatAt.ext ?_ x7 | with_reducible refine NatAt.ext ?_ x8 | with_reducible refine NatAt.ext ?_ hx | with_reducible refine NatAt.ext ?_ hext)), NY.out, OY.out, (by first | (simp; done) | (simp; omega) | omega), Ext.q⟩
            case measure => omega
end Go.Proofs.YtkegefnpmijfiaaGreat
