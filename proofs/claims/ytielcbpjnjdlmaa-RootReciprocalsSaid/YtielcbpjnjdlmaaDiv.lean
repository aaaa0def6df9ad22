/- fx: Div, Ratio, Shifted, Close; what they tell. -/
import Derived.Test.YtielcbpjnjdlmaaQuot
namespace Go.Proofs.Ytielcbpjnjdlmaa
open Go.RowKit
theorem over_0 (a f : Int) (w : World) :
    Calls Try.prog 190 #[.agg #[.int .i64 a, .int .i64 0, .int .i64 f]] w fun e w' => e = .returned (.tuple #[.int .i64 0, .int .i64 4]) ∧ Ext w w' := by
  go_enter Try.func190, Try.ntmps190
  go_wp2
  go_ret2
  exact ⟨rfl, (by repeat (first | with_reducible exact Ext.refl _ | with_reducible apply Ext.drew | with_reducible apply Ext.drewN | with_reducible apply Ext.alloc | ((with_reducible refine Ext.setCell ?_ ?_ _); rotate_left; focus (first | (simp; done) | (simp; omega) | omega)) | with_reducible refine Ext.tr ?_ x1 | with_reducible refine Ext.tr ?_ x2 | with_reducible refine Ext.tr ?_ x3 | with_reducible refine Ext.tr ?_ x4 | with_reducible refine Ext.tr ?_ x5 | with_reducible refine Ext.tr ?_ hx | with_reducible assumption))⟩
/-- What a quotient is: its word, its error. -/
def dv (a b f : Int) : Int := if b = 0 then 0 else wv (rdiv (a * p2 f) b)
def de (a b f : Int) : Int := if b = 0 then 4 else we (rdiv (a * p2 f) b)
theorem dv_ok {a b f : Int} (h : b ≠ 0) : dv a b f = wv (rdiv (a * p2 f) b) := if_neg h
theorem de_ok {a b f : Int} (h : b ≠ 0) : de a b f = we (rdiv (a * p2 f) b) := if_neg h
theorem over_any' (a b f : Int) (w : World) (ha : Wd a) (hb : Wd b) (f1 : 0 ≤ f) (f2 : f ≤ 32) :
    Calls Try.prog 190 #[.agg #[.int .i64 a, .int .i64 b, .int .i64 f]] w fun e w' => e = .returned (.tuple #[.int .i64 (dv a b f), .int .i64 (de a b f)]) ∧ Ext w w' := by
  by_cases h : b = 0
  · subst h; exact over_0 a f w
  · rw [dv_ok h, de_ok h]; exact over_any a b f w ha hb h f1 f2
theorem Div_any (a b f : Int) (w : World) (ha : Wd a) (hb : Wd b) (hf : gdF f = true) :
    Calls Try.prog 39 #[.int .i64 a, .int .i64 b, .int .i64 f] w fun e w' => e = .returned (.tuple #[.int .i64 (dv a b f), .int .i64 (de a b f)]) ∧ Ext w w' := by
  obtain ⟨f1, f2⟩ := gdF_iff.1 hf
  have R := Lib.hid (fun v => reckon_ok 3 a b f 190 _ v ha.g hb.g hf _ _ rfl way_3 (enters_of Try.func190 (by kernel_rfl) rfl) (fun u => over_any' a b f u ha hb (by omega) f2))
  clear hf
  go_enter Try.func39, Try.ntmps39
  go_wp2_with fail; refine (R.out _).mono ?_; rintro e v1 ⟨rfl, x1⟩; obtain ⟨c1, f1⟩ := x1.rules; have z1 := x1.size
  go_wp2
  go_ret2
  exact ⟨rfl, (by repeat (first | with_reducible exact Ext.refl _ | with_reducible apply Ext.drew | with_reducible apply Ext.drewN | with_reducible apply Ext.alloc | ((with_reducible refine Ext.setCell ?_ ?_ _); rotate_left; focus (first | (simp; done) | (simp; omega) | omega)) | with_reducible refine Ext.tr ?_ x1 | with_reducible refine Ext.tr ?_ x2 | with_reducible refine Ext.tr ?_ x3 | with_reducible refine Ext.tr ?_ x4 | with_reducible refine Ext.tr ?_ x5 | with_reducible refine Ext.tr ?_ hx | with_reducible assumption))⟩
theorem Ratio_0 (a f : Int) (w : World) (hf : gdF f = true) :
    Calls Try.prog 62 #[.int .i64 a, .int .i64 0, .int .i64 f] w fun e w' => e = .returned (.tuple #[.int .i64 0, .int .i64 4]) ∧ Ext w w' := by
  go_enter Try.func62, Try.ntmps62
  go_wp2_with fail; refine (goodF_any _ _).mono ?_; rintro e w' ⟨rfl, rfl⟩
  go_wp2
  go_ret2
  exact ⟨rfl, (by repeat (first | with_reducible exact Ext.refl _ | with_reducible apply Ext.drew | with_reducible apply Ext.drewN | with_reducible apply Ext.alloc | ((with_reducible refine Ext.setCell ?_ ?_ _); rotate_left; focus (first | (simp; done) | (simp; omega) | omega)) | with_reducible refine Ext.tr ?_ x1 | with_reducible refine Ext.tr ?_ x2 | with_reducible refine Ext.tr ?_ x3 | with_reducible refine Ext.tr ?_ x4 | with_reducible refine Ext.tr ?_ x5 | with_reducible refine Ext.tr ?_ hx | with_reducible assumption))⟩
theorem Ratio_bad (a d f : Int) (w : World) (hf : gdF f = false) :
    Calls Try.prog 62 #[.int .i64 a, .int .i64 d, .int .i64 f] w fun e w' => e = .returned (.tuple #[.int .i64 0, .int .i64 1]) ∧ Ext w w' := by
  go_enter Try.func62, Try.ntmps62
  go_wp2_with fail; refine (goodF_any _ _).mono ?_; rintro e w' ⟨rfl, rfl⟩
  go_wp2
  go_ret2
  exact ⟨rfl, (by repeat (first | with_reducible exact Ext.refl _ | with_reducible apply Ext.drew | with_reducible apply Ext.drewN | with_reducible apply Ext.alloc | ((with_reducible refine Ext.setCell ?_ ?_ _); rotate_left; focus (first | (simp; done) | (simp; omega) | omega)) | with_reducible refine Ext.tr ?_ x1 | with_reducible refine Ext.tr ?_ x2 | with_reducible refine Ext.tr ?_ x3 | with_reducible refine Ext.tr ?_ x4 | with_reducible refine Ext.tr ?_ x5 | with_reducible refine Ext.tr ?_ hx | with_reducible assumption))⟩
set_option maxHeartbeats 2000000 in
theorem Ratio_some (a b f : Int) (w : World) (a1 : -9223372036854775808 ≤ a) (a2 : a < 9223372036854775808) (b1 : -9223372036854775808 ≤ b) (b2 : b < 9223372036854775808) (hb0 : b ≠ 0) (hf : gdF f = true) :
    Calls Try.prog 62 #[.int .i64 a, .int .i64 b, .int .i64 f] w fun e w' => e = .returned (.tuple #[.int .i64 (wv (rdiv (a * p2 f) b)), .int .i64 (we (rdiv (a * p2 f) b))]) ∧ Ext w w' := by
  obtain ⟨f1, f2⟩ := gdF_iff.1 hf
  have FA := Lib.hid (fun v => From_any a v (by omega) (by omega))
  have FB := Lib.hid (fun v => From_any b v (by omega) (by omega))
  have L := Lib.hid (fun v => left_p2 a f v (by omega) (by omega) (by omega) f2)
  have N := Lib.hid (fun v => narrow_any (rdiv (a * p2 f) b) v)
  have R := Lib.hid (fun v => round_p2 a b f v (by omega) (by omega) (by omega) f2 (by omega) (by omega) hb0)
  have z : (b == 0) = false := by rw [beq_eq_false_iff_ne]; exact hb0
  clear hb0
  go_enter Try.func62, Try.ntmps62
  go_wp2_with fail; refine (goodF_any _ _).mono ?_; rintro e w' ⟨rfl, rfl⟩
  go_wp2_with fail; refine (FA.out _).mono ?_; rintro e v1 ⟨rfl, x1⟩; obtain ⟨c1, f1⟩ := x1.rules; have z1 := x1.size
  go_wp2_with fail; refine (L.out _).mono ?_; rintro e v2 ⟨rfl, x2⟩; obtain ⟨c2, f2⟩ := x2.rules; have z2 := x2.size
  go_wp2_with fail
  go_region_held3 (fun w' => w'.cell? ⟨v2.heap.size, 0, none⟩ = some (.int .i64 (hi (a * p2 f))) ∧ w'.cell? ⟨v2.heap.size, 1, none⟩ = some (.int .u64 (lo (a * p2 f))) ∧ w.heap.size ≤ v2.heap.size ∧ v2.heap.size < w'.heap.size ∧ Ext w w')
    (refine ⟨?_, ?_, ?_, ?_, ?_⟩ <;> first | (simp [go_sem, *]; done) | omega | (simp at z1; omega) | (simp at z2; omega) | (simp at z3; omega) | (simp at z4; omega) | exact (by repeat (first | with_reducible exact Ext.refl _ | with_reducible apply Ext.drew | with_reducible apply Ext.drewN | with_reducible apply Ext.alloc | ((with_reducible refine Ext.setCell ?_ ?_ _); rotate_left; focus (first | (simp; done) | (simp; omega) | omega)) | with_reducible refine Ext.tr ?_ x1 | with_reducible refine Ext.tr ?_ x2 | with_reducible refine Ext.tr ?_ x3 | with_reducible refine Ext.tr ?_ x4 | with_reducible refine Ext.tr ?_ x5 | with_reducible refine Ext.tr ?_ hx | with_reducible assumption)))
    (first
      | (go_at_call 61; refine (FB.out _).mono ?_; rintro e v3 ⟨rfl, x3⟩; obtain ⟨c3, f3⟩ := x3.rules; have z3 := x3.size; have k3_v2_heap_size___1_0 := c3 (v2.heap.size + 1) 0 (by first | (simp; done) | (simp; omega) | omega); have q3_v2_heap_size___1_0 := f3 (v2.heap.size + 1) 0 (by first | (simp; done) | (simp; omega) | omega); have k3_v2_heap_size___1_1 := c3 (v2.heap.size + 1) 1 (by first | (simp; done) | (simp; omega) | omega); have q3_v2_heap_size___1_1 := f3 (v2.heap.size + 1) 1 (by first | (simp; done) | (simp; omega) | omega); have k3_v2_heap_size_0 := c3 (v2.heap.size) 0 (by first | (simp; done) | (simp; omega) | omega); have q3_v2_heap_size_0 := f3 (v2.heap.size) 0 (by first | (simp; done) | (simp; omega) | omega); have k3_v2_heap_size_1 := c3 (v2.heap.size) 1 (by first | (simp; done) | (simp; omega) | omega); have q3_v2_heap_size_1 := f3 (v2.heap.size) 1 (by first | (simp; done) | (simp; omega) | omega); have z3_v2_heap_size : v2.heap.size < v3.heap.size := (by (try simp at z3); omega); have z3_v2_heap_size___1 : v2.heap.size + 1 < v3.heap.size := (by (try simp at z3); omega); (try simp at z3); clear c3 f3; simp [go_sem, *] at k3_v2_heap_size___1_0 q3_v2_heap_size___1_0 k3_v2_heap_size___1_1 q3_v2_heap_size___1_1 k3_v2_heap_size_0 q3_v2_heap_size_0 k3_v2_heap_size_1 q3_v2_heap_size_1)
      | (go_at_call 61; refine (FB.out _).mono ?_; rintro e v3 ⟨rfl, x3⟩; obtain ⟨c3, f3⟩ := x3.rules; have z3 := x3.size; have k3_v2_heap_size_0 := c3 (v2.heap.size) 0 (by first | (simp; done) | (simp; omega) | omega); have q3_v2_heap_size_0 := f3 (v2.heap.size) 0 (by first | (simp; done) | (simp; omega) | omega); have k3_v2_heap_size_1 := c3 (v2.heap.size) 1 (by first | (simp; done) | (simp; omega) | omega); have q3_v2_heap_size_1 := f3 (v2.heap.size) 1 (by first | (simp; done) | (simp; omega) | omega); have z3_v2_heap_size : v2.heap.size < v3.heap.size := (by (try simp at z3); omega); (try simp at z3); clear c3 f3; simp [go_sem, *] at k3_v2_heap_size_0 q3_v2_heap_size_0 k3_v2_heap_size_1 q3_v2_heap_size_1)
      | (go_at_call 116; refine (R.out _).mono ?_; rintro e v4 ⟨rfl, x4⟩; obtain ⟨c4, f4⟩ := x4.rules; have z4 := x4.size; have k4_v3_heap_size_0 := c4 (v3.heap.size) 0 (by first | (simp; done) | (simp; omega) | omega); have q4_v3_heap_size_0 := f4 (v3.heap.size) 0 (by first | (simp; done) | (simp; omega) | omega); have k4_v3_heap_size_1 := c4 (v3.heap.size) 1 (by first | (simp; done) | (simp; omega) | omega); have q4_v3_heap_size_1 := f4 (v3.heap.size) 1 (by first | (simp; done) | (simp; omega) | omega); have k4_v2_heap_size_0 := c4 (v2.heap.size) 0 (by first | (simp; done) | (simp; omega) | omega); have q4_v2_heap_size_0 := f4 (v2.heap.size) 0 (by first | (simp; done) | (simp; omega) | omega); have k4_v2_heap_size_1 := c4 (v2.heap.size) 1 (by first | (simp; done) | (simp; omega) | omega); have q4_v2_heap_size_1 := f4 (v2.heap.size) 1 (by first | (simp; done) | (simp; omega) | omega); have z4_v3_heap_size : v3.heap.size < v4.heap.size := (by (try simp at z4); omega); have z4_v2_heap_size : v2.heap.size < v4.heap.size := (by (try simp at z4); omega); (try simp at z4); clear c4 f4; simp [go_sem, *] at k4_v3_heap_size_0 q4_v3_heap_size_0 k4_v3_heap_size_1 q4_v3_heap_size_1 k4_v2_heap_size_0 q4_v2_heap_size_0 k4_v2_heap_size_1 q4_v2_heap_size_1)
      | (go_at_call 116; refine (R.out _).mono ?_; rintro e v4 ⟨rfl, x4⟩; obtain ⟨c4, f4⟩ := x4.rules; have z4 := x4.size; have k4_v2_heap_size___1_0 := c4 (v2.heap.size + 1) 0 (by first | (simp; done) | (simp; omega) | omega); have q4_v2_heap_size___1_0 := f4 (v2.heap.size + 1) 0 (by first | (simp; done) | (simp; omega) | omega); have k4_v2_heap_size___1_1 := c4 (v2.heap.size + 1) 1 (by first | (simp; done) | (simp; omega) | omega); have q4_v2_heap_size___1_1 := f4 (v2.heap.size + 1) 1 (by first | (simp; done) | (simp; omega) | omega); have k4_v2_heap_size_0 := c4 (v2.heap.size) 0 (by first | (simp; done) | (simp; omega) | omega); have q4_v2_heap_size_0 := f4 (v2.heap.size) 0 (by first | (simp; done) | (simp; omega) | omega); have k4_v2_heap_size_1 := c4 (v2.heap.size) 1 (by first | (simp; done) | (simp; omega) | omega); have q4_v2_heap_size_1 := f4 (v2.heap.size) 1 (by first | (simp; done) | (simp; omega) | omega); have z4_v2_heap_size : v2.heap.size < v4.heap.size := (by (try simp at z4); omega); have z4_v2_heap_size___1 : v2.heap.size + 1 < v4.heap.size := (by (try simp at z4); omega); (try simp at z4); clear c4 f4; simp [go_sem, *] at k4_v2_heap_size___1_0 q4_v2_heap_size___1_0 k4_v2_heap_size___1_1 q4_v2_heap_size___1_1 k4_v2_heap_size_0 q4_v2_heap_size_0 k4_v2_heap_size_1 q4_v2_heap_size_1)
      | (go_at_call 116; refine (R.out _).mono ?_; rintro e v4 ⟨rfl, x4⟩; obtain ⟨c4, f4⟩ := x4.rules; have z4 := x4.size; have k4_v2_heap_size_0 := c4 (v2.heap.size) 0 (by first | (simp; done) | (simp; omega) | omega); have q4_v2_heap_size_0 := f4 (v2.heap.size) 0 (by first | (simp; done) | (simp; omega) | omega); have k4_v2_heap_size_1 := c4 (v2.heap.size) 1 (by first | (simp; done) | (simp; omega) | omega); have q4_v2_heap_size_1 := f4 (v2.heap.size) 1 (by first | (simp; done) | (simp; omega) | omega); have z4_v2_heap_size : v2.heap.size < v4.heap.size := (by (try simp at z4); omega); (try simp at z4); clear c4 f4; simp [go_sem, *] at k4_v2_heap_size_0 q4_v2_heap_size_0 k4_v2_heap_size_1 q4_v2_heap_size_1))
  all_goals (go_wp2_with fail; refine (N.out _).mono ?_; rintro e v5 ⟨rfl, x5⟩; obtain ⟨c5, f5⟩ := x5.rules; have z5 := x5.size; go_wp2; go_ret2; exact ⟨rfl, (by repeat (first | with_reducible exact Ext.refl _ | with_reducible apply Ext.drew | with_reducible apply Ext.drewN | with_reducible apply Ext.alloc | ((with_reducible refine Ext.setCell ?_ ?_ _); rotate_left; focus (first | (simp; done) | (simp; omega) | omega)) | with_reducible refine Ext.tr ?_ x1 | with_reducible refine Ext.tr ?_ x2 | with_reducible refine Ext.tr ?_ x3 | with_reducible refine Ext.tr ?_ x4 | with_reducible refine Ext.tr ?_ x5 | with_reducible refine Ext.tr ?_ hx | with_reducible assumption))⟩)
theorem Ratio_any (a b f : Int) (w : World) (a1 : -9223372036854775808 ≤ a) (a2 : a < 9223372036854775808) (b1 : -9223372036854775808 ≤ b) (b2 : b < 9223372036854775808) (hf : gdF f = true) :
    Calls Try.prog 62 #[.int .i64 a, .int .i64 b, .int .i64 f] w fun e w' => e = .returned (.tuple #[.int .i64 (dv a b f), .int .i64 (de a b f)]) ∧ Ext w w' := by
  by_cases h : b = 0
  · subst h; exact Ratio_0 a f w hf
  · rw [dv_ok h, de_ok h]; exact Ratio_some a b f w a1 a2 b1 b2 h hf
theorem Shifted_any (x n : Int) (w : World) (hx : W128 x) (hn : 0 ≤ n) (hn2 : n ≤ 126) :
    Calls Try.prog 109 #[.agg #[.int .i64 (hi x), .int .u64 (lo x)], .int .i64 n] w fun e w' => e = .returned (.tuple #[.int .i64 (wv (near x (p2 n))), .int .i64 (we (near x (p2 n)))]) ∧ Ext w w' := by
  have H := Lib.hid hx
  clear hx
  go_enter Try.func109, Try.ntmps109
  go_wp2_with fail; refine (shift_any _ _ _ H.out hn hn2).mono ?_; rintro e v1 ⟨rfl, x1⟩; obtain ⟨c1, f1⟩ := x1.rules; have z1 := x1.size
  go_wp2_with fail; refine (narrow_any _ _).mono ?_; rintro e v2 ⟨rfl, x2⟩; obtain ⟨c2, f2⟩ := x2.rules; have z2 := x2.size
  go_wp2
  go_ret2
  exact ⟨rfl, (by repeat (first | with_reducible exact Ext.refl _ | with_reducible apply Ext.drew | with_reducible apply Ext.drewN | with_reducible apply Ext.alloc | ((with_reducible refine Ext.setCell ?_ ?_ _); rotate_left; focus (first | (simp; done) | (simp; omega) | omega)) | with_reducible refine Ext.tr ?_ x1 | with_reducible refine Ext.tr ?_ x2 | with_reducible refine Ext.tr ?_ x3 | with_reducible refine Ext.tr ?_ x4 | with_reducible refine Ext.tr ?_ x5 | with_reducible refine Ext.tr ?_ hx | with_reducible assumption))⟩
theorem Close_any (x n : Int) (w : World) (hx : W128 x) (hn : 0 ≤ n) (hn2 : n ≤ 126) :
    Calls Try.prog 58 #[.agg #[.int .i64 (hi x), .int .u64 (lo x)], .int .i64 n] w fun e w' => e = .returned (.tuple #[.int .i64 (wv (near x (p2 n))), .int .i64 (we (near x (p2 n)))]) ∧ Ext w w' := by
  have S := Lib.hid (fun v => Shifted_any x n v hx hn hn2)
  clear hx
  go_enter Try.func58, Try.ntmps58
  go_wp2_with fail; refine (S.out _).mono ?_; rintro e v1 ⟨rfl, x1⟩; obtain ⟨c1, f1⟩ := x1.rules; have z1 := x1.size
  go_wp2
  go_ret2
  exact ⟨rfl, (by repeat (first | with_reducible exact Ext.refl _ | with_reducible apply Ext.drew | with_reducible apply Ext.drewN | with_reducible apply Ext.alloc | ((with_reducible refine Ext.setCell ?_ ?_ _); rotate_left; focus (first | (simp; done) | (simp; omega) | omega)) | with_reducible refine Ext.tr ?_ x1 | with_reducible refine Ext.tr ?_ x2 | with_reducible refine Ext.tr ?_ x3 | with_reducible refine Ext.tr ?_ x4 | with_reducible refine Ext.tr ?_ x5 | with_reducible refine Ext.tr ?_ hx | with_reducible assumption))⟩
theorem Close_bad (x n : Int) (w : World) (h : n < 0 ∨ 126 < n) :
    Calls Try.prog 58 #[.agg #[.int .i64 (hi x), .int .u64 (lo x)], .int .i64 n] w fun e w' => e = .returned (.tuple #[.int .i64 0, .int .i64 1]) ∧ Ext w w' := by
  rcases h with h | h
  · go_enter Try.func58, Try.ntmps58
    go_wp2
    go_ret2
    exact ⟨rfl, (by repeat (first | with_reducible exact Ext.refl _ | with_reducible apply Ext.drew | with_reducible apply Ext.drewN | with_reducible apply Ext.alloc | ((with_reducible refine Ext.setCell ?_ ?_ _); rotate_left; focus (first | (simp; done) | (simp; omega) | omega)) | with_reducible refine Ext.tr ?_ x1 | with_reducible refine Ext.tr ?_ x2 | with_reducible refine Ext.tr ?_ x3 | with_reducible refine Ext.tr ?_ x4 | with_reducible refine Ext.tr ?_ x5 | with_reducible refine Ext.tr ?_ hx | with_reducible assumption))⟩
  · have h' : 0 ≤ n := by omega
    go_enter Try.func58, Try.ntmps58
    go_wp2
    go_ret2
    exact ⟨rfl, (by repeat (first | with_reducible exact Ext.refl _ | with_reducible apply Ext.drew | with_reducible apply Ext.drewN | with_reducible apply Ext.alloc | ((with_reducible refine Ext.setCell ?_ ?_ _); rotate_left; focus (first | (simp; done) | (simp; omega) | omega)) | with_reducible refine Ext.tr ?_ x1 | with_reducible refine Ext.tr ?_ x2 | with_reducible refine Ext.tr ?_ x3 | with_reducible refine Ext.tr ?_ x4 | with_reducible refine Ext.tr ?_ x5 | with_reducible refine Ext.tr ?_ hx | with_reducible assumption))⟩
/- The plain laws. -/
theorem near0_mul (a d : Int) (hd : 0 < d) : near0 (a * d) d = a := by
  have e1 : a * d % d = 0 := Int.mul_emod_left a d
  have e2 : a * d / d = a := Int.mul_ediv_cancel a (by omega)
  unfold near0
  rw [e1, e2, if_neg (by omega)]
theorem near_mul (a d : Int) (hd : 0 < d) : near (a * d) d = a := by
  unfold near
  split
  · rw [← Int.neg_mul, near0_mul _ _ hd, Int.neg_neg]
  · exact near0_mul a d hd
theorem near0_scale (m e k : Int) (hk : 0 < k) : near0 (m * k) (e * k) = near0 m e := by
  have e1 : m * k % (e * k) = m % e * k := by rw [Int.mul_comm m, Int.mul_comm e, Int.mul_emod_mul_of_pos _ _ hk, Int.mul_comm]
  have e2 : m * k / (e * k) = m / e := Int.mul_ediv_mul_of_pos_left m e hk
  unfold near0
  rw [e1, e2, ← Int.sub_mul]
  have i1 : (e - m % e) * k < m % e * k ↔ e - m % e < m % e := Int.mul_lt_mul_right hk
  have i2 : (e - m % e) * k = m % e * k ↔ e - m % e = m % e := Int.mul_eq_mul_right_iff (by omega)
  simp only [i1, i2]
theorem mag_mul (a k : Int) (hk : 0 < k) : mag (a * k) = mag a * k ∧ decide (a * k < 0) = decide (a < 0) := by
  unfold mag
  rcases Int.lt_or_le a 0 with h | h
  · have := Int.mul_neg_of_neg_of_pos h hk
    rw [if_pos h, if_pos this, Int.neg_mul]
    simp [h, this]
  · have := Int.mul_nonneg h (Int.le_of_lt hk)
    rw [if_neg (by omega), if_neg (by omega)]
    exact ⟨rfl, by simp; omega⟩
theorem rdiv_scale (n d k : Int) (hk : 0 < k) : rdiv (n * k) (d * k) = rdiv n d := by
  unfold rdiv
  rw [(mag_mul n k hk).1, (mag_mul n k hk).2, (mag_mul d k hk).1, (mag_mul d k hk).2, near0_scale _ _ _ hk]
theorem rdiv_neg (n d : Int) : rdiv (-n) d = -rdiv n d := by
  have m : mag (-n) = mag n := by unfold mag; split <;> split <;> omega
  unfold rdiv
  rw [m]
  rcases Int.lt_trichotomy n 0 with h | h | h
  · have e1 : decide (n < 0) = true := by simp [h]
    have e2 : decide (-n < 0) = false := by simp; omega
    rw [e1, e2]; cases decide (d < 0) <;> simp [sg]
  · subst h
    have e : near0 (mag 0) (mag d) = 0 := by
      unfold near0 mag
      simp
      omega
    rw [e]; simp [sg]
  · have e1 : decide (n < 0) = false := by simp; omega
    have e2 : decide (-n < 0) = true := by simp; omega
    rw [e1, e2]; cases decide (d < 0) <;> simp [sg]
theorem dv_scale (n d k f : Int) (hk : 0 < k) : dv (n * k) (d * k) f = dv n d f ∧ de (n * k) (d * k) f = de n d f := by
  by_cases h : d = 0
  · subst h; simp [dv, de]
  · have h' : d * k ≠ 0 := Int.mul_ne_zero h (by omega)
    rw [dv_ok h, de_ok h, dv_ok h', de_ok h', Int.mul_right_comm, rdiv_scale _ _ _ hk]
    exact ⟨rfl, rfl⟩
theorem dv_neg (n d f : Int) (h : d ≠ 0) : dv (-n) d f = -dv n d f ∧ de (-n) d f = de n d f := by
  rw [dv_ok h, de_ok h, dv_ok h, de_ok h, Int.neg_mul, rdiv_neg, wv_neg, we_neg]
  exact ⟨rfl, rfl⟩
end Go.Proofs.Ytielcbpjnjdlmaa
