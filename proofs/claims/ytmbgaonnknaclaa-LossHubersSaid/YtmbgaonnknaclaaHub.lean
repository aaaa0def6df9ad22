/- Package loss: what a pair of words tells: its square, and Huber's. -/
import Derived.Test.YtmbgaonnknaclaaMean
namespace Go.Proofs.Ytmbgaonnknaclaa
open Go.RowKit
attribute [local go_sem ↓] Go.wp_at_zero Go.wp_at_succ
def sqG (u : Int) : Int := u * u
def hubG (d u : Int) : Int := if u ≤ d then u * u else 2 * d * u - d * d
theorem sq_bd {u : Int} (h0 : 0 ≤ u) (h1 : u < 281474976710656) : 0 ≤ u * u ∧ u * u ≤ 79228162514264337593543950336 := by
  have a := Int.mul_nonneg h0 h0
  have b := Int.mul_le_mul (show u ≤ 281474976710656 by omega) (show u ≤ 281474976710656 by omega) h0 (by omega)
  omega
theorem sq_tells : Tells sqG := fun _ h0 h1 => sq_bd h0 h1
theorem hub_le {d u : Int} : hubG d u ≤ u * u := by
  unfold hubG
  split
  · exact Int.le_refl _
  · have h : 0 ≤ (u - d) * (u - d) := by
      rcases Int.lt_or_le (u - d) 0 with h | h
      · exact Int.le_of_lt (Int.mul_pos_of_neg_of_neg h h)
      · exact Int.mul_nonneg h h
    have e : (u - d) * (u - d) = u * u - 2 * d * u + d * d := by grind
    omega
theorem hub_nn {d u : Int} (d0 : 0 < d) (h0 : 0 ≤ u) : 0 ≤ hubG d u := by
  unfold hubG
  split
  · exact Int.mul_nonneg h0 h0
  · have e : 2 * d * u - d * d = d * u + d * (u - d) := by grind
    have a := Int.mul_nonneg (Int.le_of_lt d0) h0
    have b := Int.mul_nonneg (Int.le_of_lt d0) (show 0 ≤ u - d by omega)
    omega
theorem hub_tells {d : Int} (d0 : 0 < d) : Tells (hubG d) := fun _ h0 h1 => ⟨hub_nn d0 h0, Int.le_trans hub_le (sq_bd h0 h1).2⟩
theorem mag_nn' {x : Int} (h : 0 ≤ x) : mag x = x := by unfold mag; rw [if_neg (by omega)]
theorem sq1_any (u : Int) (w : World) (h0 : 0 ≤ u) (h1 : u < 281474976710656) :
    Calls Try.prog 63 #[.int .i64 u] w fun e w' => e = .returned (.agg #[.int .i64 (hi (sqG u)), .int .u64 (lo (sqG u))]) ∧ Ext w w' := by
  have b := sq_bd h0 h1
  have M := Lib.hid (fun v => Mul_wide u u v (by omega) (by omega) (by omega) (by omega) (by rw [mag_nn' b.1]; omega))
  clear b
  unfold sqG
  generalize u * u = q at M
  go_enter Try.func63, Try.ntmps63
  go_wp2_with fail; refine (M.out _).mono ?_; rintro e v1 ⟨rfl, x1⟩; obtain ⟨c1, f1⟩ := x1.rules; have z1 := x1.size; have k1_0_0 := c1 (w.heap.size) 0 (by first | (simp; done) | (simp; omega) | omega); have q1_0_0 := f1 (w.heap.size) 0 (by first | (simp; done) | (simp; omega) | omega); have k1_0_1 := c1 (w.heap.size) 1 (by first | (simp; done) | (simp; omega) | omega); have q1_0_1 := f1 (w.heap.size) 1 (by first | (simp; done) | (simp; omega) | omega); have z1_0 : w.heap.size < v1.heap.size := (by (try simp at z1); omega); (try simp at z1); clear c1 f1; simp [go_sem, *] at k1_0_0 q1_0_0 k1_0_1 q1_0_1
  go_wp2
  simp [bodyPost, results, Try.results63, go_sem, *]
  exact (by repeat (first | with_reducible exact Ext.refl _ | with_reducible apply Ext.drew | with_reducible apply Ext.drewN | with_reducible apply Ext.alloc | ((with_reducible refine Ext.setCell ?_ ?_ _); rotate_left; focus (first | (simp; done) | (simp; omega) | omega)) | with_reducible refine Ext.tr ?_ x1 | with_reducible refine Ext.tr ?_ x2 | with_reducible refine Ext.tr ?_ x3 | with_reducible refine Ext.tr ?_ hext | with_reducible assumption))
set_option maxHeartbeats 800000 in
set_option maxRecDepth 100000 in
theorem hub1_any (d u : Int) (B : Nat) (w : World) (hd : w.cell? ⟨B, 0, none⟩ = some (.int .i64 d)) (d0 : 0 < d) (d1 : d < 140737488355328) (h0 : 0 ≤ u) (h1 : u < 281474976710656) :
    Calls Try.prog 66 #[.int .i64 u, .pointer (some ⟨B, 0, none⟩)] w fun e w' => e = .returned (.agg #[.int .i64 (hi (hubG d u)), .int .u64 (lo (hubG d u))]) ∧ Ext w w' := by
  have hB := cell_lt hd
  simp only at hB
  by_cases hud : u ≤ d
  · have b := sq_bd h0 h1
    have M := Lib.hid (fun v => Mul_wide u u v (by omega) (by omega) (by omega) (by omega) (by rw [mag_nn' b.1]; omega))
    have E : hubG d u = u * u := if_pos hud
    rw [E]
    clear b E
    generalize u * u = q at M
    go_enter Try.func66, Try.ntmps66
    go_wp2_with fail; refine (M.out _).mono ?_; rintro e v1 ⟨rfl, x1⟩; obtain ⟨c1, f1⟩ := x1.rules; have z1 := x1.size; have k1_0_0 := c1 (w.heap.size) 0 (by first | (simp; done) | (simp; omega) | omega); have q1_0_0 := f1 (w.heap.size) 0 (by first | (simp; done) | (simp; omega) | omega); have k1_0_1 := c1 (w.heap.size) 1 (by first | (simp; done) | (simp; omega) | omega); have q1_0_1 := f1 (w.heap.size) 1 (by first | (simp; done) | (simp; omega) | omega); have z1_0 : w.heap.size < v1.heap.size := (by (try simp at z1); omega); (try simp at z1); clear c1 f1; simp [go_sem, *] at k1_0_0 q1_0_0 k1_0_1 q1_0_1
    go_wp2
    simp [bodyPost, results, Try.results66, go_sem, *]
    exact (by repeat (first | with_reducible exact Ext.refl _ | with_reducible apply Ext.drew | with_reducible apply Ext.drewN | with_reducible apply Ext.alloc | ((with_reducible refine Ext.setCell ?_ ?_ _); rotate_left; focus (first | (simp; done) | (simp; omega) | omega)) | with_reducible refine Ext.tr ?_ x1 | with_reducible refine Ext.tr ?_ x2 | with_reducible refine Ext.tr ?_ x3 | with_reducible refine Ext.tr ?_ hext | with_reducible assumption))
  · have b := sq_bd (Int.le_of_lt d0) (show d < 281474976710656 by omega)
    have c0 := Int.mul_nonneg (show 0 ≤ 2 * d by omega) h0
    have c1 := Int.mul_le_mul (show 2 * d ≤ 281474976710656 by omega) (show u ≤ 281474976710656 by omega) h0 (by omega)
    have e1 := hub_nn (u := u) d0 h0
    have M1 := Lib.hid (fun v => Mul_wide (2 * d) u v (by omega) (by omega) (by omega) (by omega) (by rw [mag_nn' c0]; omega))
    have M2 := Lib.hid (fun v => Mul_wide d d v (by omega) (by omega) (by omega) (by omega) (by rw [mag_nn' b.1]; omega))
    have E : hubG d u = 2 * d * u - d * d := if_neg hud
    rw [E] at e1 ⊢
    generalize 2 * d * u = p at M1 c0 c1 e1
    generalize d * d = q at M2 b e1
    have SU := Lib.hid (fun v => wideSub_any p q v ⟨by omega, by omega⟩ ⟨by omega, by omega⟩ ⟨by omega, by omega⟩)
    have w2 : IntKind.i64.wrap (2 * d) = 2 * d := by rw [IntKind.wrap_i64]; omega
    clear b c0 c1 e1 E
    go_enter Try.func66, Try.ntmps66
    go_wp2_with fail
    go_cut [4] (fun s4 wx => ∃ g : Nat, s4 = .pointer (some ⟨g, 0, none⟩) ∧ wx.cell? ⟨g, 0, none⟩ = some (.int .i64 (hi (p - q))) ∧ wx.cell? ⟨g, 1, none⟩ = some (.int .u64 (lo (p - q))) ∧ wx.cell? ⟨w.heap.size, 0, none⟩ = some (.int .i64 0) ∧ wx.cell? ⟨w.heap.size, 1, none⟩ = some (.int .u64 0) ∧ wx.frozen? ⟨w.heap.size, 0, none⟩ = false ∧ wx.frozen? ⟨w.heap.size, 1, none⟩ = false ∧ w.heap.size < wx.heap.size ∧ Ext w wx)
    case first =>
      go_region_held3 (fun w' => w'.cell? ⟨B, 0, none⟩ = some (.int .i64 d) ∧ w'.cell? ⟨w.heap.size, 0, none⟩ = some (.int .i64 0) ∧ w'.cell? ⟨w.heap.size, 1, none⟩ = some (.int .u64 0) ∧ w'.frozen? ⟨w.heap.size, 0, none⟩ = false ∧ w'.frozen? ⟨w.heap.size, 1, none⟩ = false ∧ w.heap.size < w'.heap.size ∧ Ext w w')
        (refine ⟨?_, ?_, ?_, ?_, ?_, ?_, ?_⟩ <;> first | (simp [go_sem, *]; done) | omega | (simp at z1; omega) | (simp at z2; omega) | (simp at z3; omega) | (simp at z4; omega) | exact (by repeat (first | with_reducible exact Ext.refl _ | with_reducible apply Ext.drew | with_reducible apply Ext.drewN | with_reducible apply Ext.alloc | ((with_reducible refine Ext.setCell ?_ ?_ _); rotate_left; focus (first | (simp; done) | (simp; omega) | omega)) | with_reducible refine Ext.tr ?_ x1 | with_reducible refine Ext.tr ?_ x2 | with_reducible refine Ext.tr ?_ x3 | with_reducible refine Ext.tr ?_ hext | with_reducible assumption)))
        (first
          | ((go_at_call 64; refine (M1.out _).mono ?_; rintro e v1 ⟨rfl, x1⟩; obtain ⟨c1, f1⟩ := x1.rules; have z1 := x1.size; have k1_0_0 := c1 (w.heap.size) 0 (by first | (simp; done) | (simp; omega) | omega); have q1_0_0 := f1 (w.heap.size) 0 (by first | (simp; done) | (simp; omega) | omega); have k1_0_1 := c1 (w.heap.size) 1 (by first | (simp; done) | (simp; omega) | omega); have q1_0_1 := f1 (w.heap.size) 1 (by first | (simp; done) | (simp; omega) | omega); have k1_B_0 := c1 (B) 0 (by first | (simp; done) | (simp; omega) | omega); have q1_B_0 := f1 (B) 0 (by first | (simp; done) | (simp; omega) | omega); have k1_1_0 := c1 (w.heap.size + 1) 0 (by first | (simp; done) | (simp; omega) | omega); have q1_1_0 := f1 (w.heap.size + 1) 0 (by first | (simp; done) | (simp; omega) | omega); have k1_1_1 := c1 (w.heap.size + 1) 1 (by first | (simp; done) | (simp; omega) | omega); have q1_1_1 := f1 (w.heap.size + 1) 1 (by first | (simp; done) | (simp; omega) | omega); have z1_0 : w.heap.size < v1.heap.size := (by (try simp at z1); omega); have z1_B : B < v1.heap.size := (by (try simp at z1); omega); have z1_1 : w.heap.size + 1 < v1.heap.size := (by (try simp at z1); omega); (try simp at z1); clear c1 f1; simp [go_sem, *] at k1_0_0 q1_0_0 k1_0_1 q1_0_1 k1_B_0 q1_B_0 k1_1_0 q1_1_0 k1_1_1 q1_1_1); clear M1)
          | ((go_at_call 64; refine (M1.out _).mono ?_; rintro e v1 ⟨rfl, x1⟩; obtain ⟨c1, f1⟩ := x1.rules; have z1 := x1.size; have k1_0_0 := c1 (w.heap.size) 0 (by first | (simp; done) | (simp; omega) | omega); have q1_0_0 := f1 (w.heap.size) 0 (by first | (simp; done) | (simp; omega) | omega); have k1_0_1 := c1 (w.heap.size) 1 (by first | (simp; done) | (simp; omega) | omega); have q1_0_1 := f1 (w.heap.size) 1 (by first | (simp; done) | (simp; omega) | omega); have k1_B_0 := c1 (B) 0 (by first | (simp; done) | (simp; omega) | omega); have q1_B_0 := f1 (B) 0 (by first | (simp; done) | (simp; omega) | omega); have z1_0 : w.heap.size < v1.heap.size := (by (try simp at z1); omega); have z1_B : B < v1.heap.size := (by (try simp at z1); omega); (try simp at z1); clear c1 f1; simp [go_sem, *] at k1_0_0 q1_0_0 k1_0_1 q1_0_1 k1_B_0 q1_B_0); clear M1)
          | ((go_at_call 64; refine (M2.out _).mono ?_; rintro e v2 ⟨rfl, x2⟩; obtain ⟨c2, f2⟩ := x2.rules; have z2 := x2.size; have k2_0_0 := c2 (w.heap.size) 0 (by first | (simp; done) | (simp; omega) | omega); have q2_0_0 := f2 (w.heap.size) 0 (by first | (simp; done) | (simp; omega) | omega); have k2_0_1 := c2 (w.heap.size) 1 (by first | (simp; done) | (simp; omega) | omega); have q2_0_1 := f2 (w.heap.size) 1 (by first | (simp; done) | (simp; omega) | omega); have k2_B_0 := c2 (B) 0 (by first | (simp; done) | (simp; omega) | omega); have q2_B_0 := f2 (B) 0 (by first | (simp; done) | (simp; omega) | omega); have k2_v1_heap_size_0 := c2 (v1.heap.size) 0 (by first | (simp; done) | (simp; omega) | omega); have q2_v1_heap_size_0 := f2 (v1.heap.size) 0 (by first | (simp; done) | (simp; omega) | omega); have k2_v1_heap_size_1 := c2 (v1.heap.size) 1 (by first | (simp; done) | (simp; omega) | omega); have q2_v1_heap_size_1 := f2 (v1.heap.size) 1 (by first | (simp; done) | (simp; omega) | omega); have z2_0 : w.heap.size < v2.heap.size := (by (try simp at z2); omega); have z2_B : B < v2.heap.size := (by (try simp at z2); omega); have z2_v1_heap_size : v1.heap.size < v2.heap.size := (by (try simp at z2); omega); (try simp at z2); clear c2 f2; simp [go_sem, *] at k2_0_0 q2_0_0 k2_0_1 q2_0_1 k2_B_0 q2_B_0 k2_v1_heap_size_0 q2_v1_heap_size_0 k2_v1_heap_size_1 q2_v1_heap_size_1); clear M2)
          | ((go_at_call 64; refine (M2.out _).mono ?_; rintro e v2 ⟨rfl, x2⟩; obtain ⟨c2, f2⟩ := x2.rules; have z2 := x2.size; have k2_0_0 := c2 (w.heap.size) 0 (by first | (simp; done) | (simp; omega) | omega); have q2_0_0 := f2 (w.heap.size) 0 (by first | (simp; done) | (simp; omega) | omega); have k2_0_1 := c2 (w.heap.size) 1 (by first | (simp; done) | (simp; omega) | omega); have q2_0_1 := f2 (w.heap.size) 1 (by first | (simp; done) | (simp; omega) | omega); have k2_B_0 := c2 (B) 0 (by first | (simp; done) | (simp; omega) | omega); have q2_B_0 := f2 (B) 0 (by first | (simp; done) | (simp; omega) | omega); have k2_1_0 := c2 (w.heap.size + 1) 0 (by first | (simp; done) | (simp; omega) | omega); have q2_1_0 := f2 (w.heap.size + 1) 0 (by first | (simp; done) | (simp; omega) | omega); have k2_1_1 := c2 (w.heap.size + 1) 1 (by first | (simp; done) | (simp; omega) | omega); have q2_1_1 := f2 (w.heap.size + 1) 1 (by first | (simp; done) | (simp; omega) | omega); have z2_0 : w.heap.size < v2.heap.size := (by (try simp at z2); omega); have z2_B : B < v2.heap.size := (by (try simp at z2); omega); have z2_1 : w.heap.size + 1 < v2.heap.size := (by (try simp at z2); omega); (try simp at z2); clear c2 f2; simp [go_sem, *] at k2_0_0 q2_0_0 k2_0_1 q2_0_1 k2_B_0 q2_B_0 k2_1_0 q2_1_0 k2_1_1 q2_1_1); clear M2)
          | ((go_at_call 64; refine (M2.out _).mono ?_; rintro e v2 ⟨rfl, x2⟩; obtain ⟨c2, f2⟩ := x2.rules; have z2 := x2.size; have k2_0_0 := c2 (w.heap.size) 0 (by first | (simp; done) | (simp; omega) | omega); have q2_0_0 := f2 (w.heap.size) 0 (by first | (simp; done) | (simp; omega) | omega); have k2_0_1 := c2 (w.heap.size) 1 (by first | (simp; done) | (simp; omega) | omega); have q2_0_1 := f2 (w.heap.size) 1 (by first | (simp; done) | (simp; omega) | omega); have k2_B_0 := c2 (B) 0 (by first | (simp; done) | (simp; omega) | omega); have q2_B_0 := f2 (B) 0 (by first | (simp; done) | (simp; omega) | omega); have z2_0 : w.heap.size < v2.heap.size := (by (try simp at z2); omega); have z2_B : B < v2.heap.size := (by (try simp at z2); omega); (try simp at z2); clear c2 f2; simp [go_sem, *] at k2_0_0 q2_0_0 k2_0_1 q2_0_1 k2_B_0 q2_B_0); clear M2)
          | ((go_at_call 67; refine (SU.out _).mono ?_; rintro e v3 ⟨rfl, x3⟩; obtain ⟨c3, f3⟩ := x3.rules; have z3 := x3.size; have k3_0_0 := c3 (w.heap.size) 0 (by first | (simp; done) | (simp; omega) | omega); have q3_0_0 := f3 (w.heap.size) 0 (by first | (simp; done) | (simp; omega) | omega); have k3_0_1 := c3 (w.heap.size) 1 (by first | (simp; done) | (simp; omega) | omega); have q3_0_1 := f3 (w.heap.size) 1 (by first | (simp; done) | (simp; omega) | omega); have k3_B_0 := c3 (B) 0 (by first | (simp; done) | (simp; omega) | omega); have q3_B_0 := f3 (B) 0 (by first | (simp; done) | (simp; omega) | omega); have k3_v2_heap_size_0 := c3 (v2.heap.size) 0 (by first | (simp; done) | (simp; omega) | omega); have q3_v2_heap_size_0 := f3 (v2.heap.size) 0 (by first | (simp; done) | (simp; omega) | omega); have k3_v2_heap_size_1 := c3 (v2.heap.size) 1 (by first | (simp; done) | (simp; omega) | omega); have q3_v2_heap_size_1 := f3 (v2.heap.size) 1 (by first | (simp; done) | (simp; omega) | omega); have z3_0 : w.heap.size < v3.heap.size := (by (try simp at z3); omega); have z3_B : B < v3.heap.size := (by (try simp at z3); omega); have z3_v2_heap_size : v2.heap.size < v3.heap.size := (by (try simp at z3); omega); (try simp at z3); clear c3 f3; simp [go_sem, *] at k3_0_0 q3_0_0 k3_0_1 q3_0_1 k3_B_0 q3_B_0 k3_v2_heap_size_0 q3_v2_heap_size_0 k3_v2_heap_size_1 q3_v2_heap_size_1); clear SU)
          | ((go_at_call 67; refine (SU.out _).mono ?_; rintro e v3 ⟨rfl, x3⟩; obtain ⟨c3, f3⟩ := x3.rules; have z3 := x3.size; have k3_0_0 := c3 (w.heap.size) 0 (by first | (simp; done) | (simp; omega) | omega); have q3_0_0 := f3 (w.heap.size) 0 (by first | (simp; done) | (simp; omega) | omega); have k3_0_1 := c3 (w.heap.size) 1 (by first | (simp; done) | (simp; omega) | omega); have q3_0_1 := f3 (w.heap.size) 1 (by first | (simp; done) | (simp; omega) | omega); have k3_B_0 := c3 (B) 0 (by first | (simp; done) | (simp; omega) | omega); have q3_B_0 := f3 (B) 0 (by first | (simp; done) | (simp; omega) | omega); have k3_v1_heap_size_0 := c3 (v1.heap.size) 0 (by first | (simp; done) | (simp; omega) | omega); have q3_v1_heap_size_0 := f3 (v1.heap.size) 0 (by first | (simp; done) | (simp; omega) | omega); have k3_v1_heap_size_1 := c3 (v1.heap.size) 1 (by first | (simp; done) | (simp; omega) | omega); have q3_v1_heap_size_1 := f3 (v1.heap.size) 1 (by first | (simp; done) | (simp; omega) | omega); have z3_0 : w.heap.size < v3.heap.size := (by (try simp at z3); omega); have z3_B : B < v3.heap.size := (by (try simp at z3); omega); have z3_v1_heap_size : v1.heap.size < v3.heap.size := (by (try simp at z3); omega); (try simp at z3); clear c3 f3; simp [go_sem, *] at k3_0_0 q3_0_0 k3_0_1 q3_0_1 k3_B_0 q3_B_0 k3_v1_heap_size_0 q3_v1_heap_size_0 k3_v1_heap_size_1 q3_v1_heap_size_1); clear SU)
          | ((go_at_call 67; refine (SU.out _).mono ?_; rintro e v3 ⟨rfl, x3⟩; obtain ⟨c3, f3⟩ := x3.rules; have z3 := x3.size; have k3_0_0 := c3 (w.heap.size) 0 (by first | (simp; done) | (simp; omega) | omega); have q3_0_0 := f3 (w.heap.size) 0 (by first | (simp; done) | (simp; omega) | omega); have k3_0_1 := c3 (w.heap.size) 1 (by first | (simp; done) | (simp; omega) | omega); have q3_0_1 := f3 (w.heap.size) 1 (by first | (simp; done) | (simp; omega) | omega); have k3_B_0 := c3 (B) 0 (by first | (simp; done) | (simp; omega) | omega); have q3_B_0 := f3 (B) 0 (by first | (simp; done) | (simp; omega) | omega); have k3_1_0 := c3 (w.heap.size + 1) 0 (by first | (simp; done) | (simp; omega) | omega); have q3_1_0 := f3 (w.heap.size + 1) 0 (by first | (simp; done) | (simp; omega) | omega); have k3_1_1 := c3 (w.heap.size + 1) 1 (by first | (simp; done) | (simp; omega) | omega); have q3_1_1 := f3 (w.heap.size + 1) 1 (by first | (simp; done) | (simp; omega) | omega); have z3_0 : w.heap.size < v3.heap.size := (by (try simp at z3); omega); have z3_B : B < v3.heap.size := (by (try simp at z3); omega); have z3_1 : w.heap.size + 1 < v3.heap.size := (by (try simp at z3); omega); (try simp at z3); clear c3 f3; simp [go_sem, *] at k3_0_0 q3_0_0 k3_0_1 q3_0_1 k3_B_0 q3_B_0 k3_1_0 q3_1_0 k3_1_1 q3_1_1); clear SU)
          | ((go_at_call 67; refine (SU.out _).mono ?_; rintro e v3 ⟨rfl, x3⟩; obtain ⟨c3, f3⟩ := x3.rules; have z3 := x3.size; have k3_0_0 := c3 (w.heap.size) 0 (by first | (simp; done) | (simp; omega) | omega); have q3_0_0 := f3 (w.heap.size) 0 (by first | (simp; done) | (simp; omega) | omega); have k3_0_1 := c3 (w.heap.size) 1 (by first | (simp; done) | (simp; omega) | omega); have q3_0_1 := f3 (w.heap.size) 1 (by first | (simp; done) | (simp; omega) | omega); have k3_B_0 := c3 (B) 0 (by first | (simp; done) | (simp; omega) | omega); have q3_B_0 := f3 (B) 0 (by first | (simp; done) | (simp; omega) | omega); have z3_0 : w.heap.size < v3.heap.size := (by (try simp at z3); omega); have z3_B : B < v3.heap.size := (by (try simp at z3); omega); (try simp at z3); clear c3 f3; simp [go_sem, *] at k3_0_0 q3_0_0 k3_0_1 q3_0_1 k3_B_0 q3_B_0); clear SU))
      all_goals (go_wp2_with fail; go_meet; exact ⟨_, rfl, by simp [go_sem, *], by simp [go_sem, *], by simp [go_sem, *], by simp [go_sem, *], by simp [go_sem, *], by simp [go_sem, *], by (first | (simp; done) | (simp; omega) | omega), (by repeat (first | with_reducible exact Ext.refl _ | with_reducible apply Ext.drew | with_reducible apply Ext.drewN | with_reducible apply Ext.alloc | ((with_reducible refine Ext.setCell ?_ ?_ _); rotate_left; focus (first | (simp; done) | (simp; omega) | omega)) | with_reducible refine Ext.tr ?_ x1 | with_reducible refine Ext.tr ?_ x2 | with_reducible refine Ext.tr ?_ x3 | with_reducible refine Ext.tr ?_ hext | with_reducible assumption))⟩)
    case rest =>
      obtain ⟨g, rfl, g0, g1, hy0, hy1, q0, q1, hsz, hext⟩ := hcut
      go_wp2
      simp [bodyPost, results, Try.results66, go_sem, *]
      exact (by repeat (first | with_reducible exact Ext.refl _ | with_reducible apply Ext.drew | with_reducible apply Ext.drewN | with_reducible apply Ext.alloc | ((with_reducible refine Ext.setCell ?_ ?_ _); rotate_left; focus (first | (simp; done) | (simp; omega) | omega)) | with_reducible refine Ext.tr ?_ x1 | with_reducible refine Ext.tr ?_ x2 | with_reducible refine Ext.tr ?_ x3 | with_reducible refine Ext.tr ?_ hext | with_reducible assumption))
theorem single_tensor {w : World} {g : Nat} {x : Int} (h : w.cell? ⟨g, 0, none⟩ = some (.int .i64 x)) : Row .i64 w (.slice (some ⟨g, 0, none⟩) 1 1) [x] :=
  ⟨_, 1, rfl, Nat.le_refl _, by unfold maxLen; omega, fun _ => ⟨g, 0, rfl, fun i hi => by
    obtain rfl : i = 0 := by simpa using hi
    simpa using h⟩⟩
end Go.Proofs.Ytmbgaonnknaclaa
