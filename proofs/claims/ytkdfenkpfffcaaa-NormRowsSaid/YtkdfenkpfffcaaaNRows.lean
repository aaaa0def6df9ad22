/- NormRows: the walk. -/
import Derived.Test.YtkdfenkpfffcaaaNorm14
import Derived.Deep.DeepCutAuto
import Derived.Deep.RegionLaw
import Derived.Deep.AppendLies
namespace Go.Proofs.Ytkdfenkpfffcaaa
open Go.RowKit
attribute [local go_sem ↓] Go.wp_at_zero Go.wp_at_succ
/-- The first q words of a row, the last one first. -/
def revL (ds : List Int) (n A q : Nat) : List Int := (List.range q).map (fun i => ds.getD (A + (n - 1 - i)) 0)
theorem revL_len (ds : List Int) (n A q : Nat) : (revL ds n A q).length = q := by simp [revL]
theorem revL_at {ds : List Int} {n A q i : Nat} (h : i < q) : (revL ds n A q).getD i 0 = ds.getD (A + (n - 1 - i)) 0 := by simp [revL, h]
theorem revL_succ (ds : List Int) (n A q : Nat) : (revL ds n A (q + 1)).map (Value.int .i64) = (revL ds n A q).map (Value.int .i64) ++ [.int .i64 (ds.getD (A + (n - 1 - q)) 0)] := by
  simp [revL, List.range_succ]
/-- A row the other way round is a tensor. -/
theorem rev_ten {xs ds : List Int} {n m A : Nat} (h1 : tenB xs ds = true) (h5 : 0 < xs.length) (hn : xs.getD (xs.length - 1) 0 = n) (_hm : ds.length = m * n) (hA : A + n ≤ ds.length) : tenB [(n : Int)] (revL ds n A n) = true := by
  simp only [tenB, Bool.and_eq_true, decide_eq_true_eq, List.all_eq_true] at h1 ⊢
  obtain ⟨⟨hs, -⟩, hg⟩ := h1
  have hd := (shp_dims hs).1.at (xs.length - 1) (by omega)
  rw [hn] at hd
  refine ⟨⟨?_, by simp [revL, pr]⟩, fun z hz => ?_⟩
  · simp [shp, dimB, pr]; omega
  · unfold revL at hz
    obtain ⟨i, hi, rfl⟩ := List.mem_map.1 hz
    have hi' := List.mem_range.1 hi
    exact hg _ (getD_mem ds _ (by omega))
/-- Each word of the row normed the other way round is that of the row. -/
theorem rev_same {ds zs ys : List Int} {n j A k : Nat} {eps f : Int} (hA : j * n = A) (hk : k < n) (hA2 : A + n ≤ ds.length) (e0 : 0 < eps) (h1 : NormTo ds n eps f zs ds.length) (h2 : NormTo (revL ds n A n) n eps f ys n) : ys.getD (n - 1 - k) 0 = zs.getD (A + k) 0 := by
  have a := h1 (A + k) (by omega)
  have e1 : (A + k) / n = j := by rw [← hA, Nat.add_comm, Nat.add_mul_div_right _ _ (by omega), Nat.div_eq_of_lt hk]; omega
  have e2 : (A + k) % n = k := by rw [← hA, Nat.add_comm, Nat.add_mul_mod_self_right, Nat.mod_eq_of_lt hk]
  rw [e1, e2] at a
  have b := h2 (n - 1 - k) (by omega)
  rw [Nat.div_eq_of_lt (show n - 1 - k < n by omega), Nat.mod_eq_of_lt (show n - 1 - k < n by omega)] at b
  have c := a.rev (h := fun t => (revL ds n A n).getD (0 * n + t) 0) (fun i hi => by
    simp only [Nat.zero_mul, Nat.zero_add]
    rw [revL_at hi, hA]) hk
  exact b.only c (by omega) e0
theorem rev_one {ds ys : List Int} {A : Nat} {eps f : Int} (e0 : 0 < eps) (h2 : NormTo (revL ds 1 A 1) 1 eps f ys 1) : ys.getD 0 0 = 0 := by
  have b := h2 0 (by omega)
  exact b.one e0
theorem last_nat {xs ds : List Int} (h1 : tenB xs ds = true) (h5 : 0 < xs.length) : ∃ n : Nat, xs.getD (xs.length - 1) 0 = n := by
  simp only [tenB, Bool.and_eq_true] at h1
  exact Int.eq_ofNat_of_zero_le (by have := (shp_dims h1.1.1).1.at (xs.length - 1) (by omega); omega)
set_option maxHeartbeats 4000000 in
set_option maxRecDepth 100000 in
theorem nrows_walk (b o len cap : Nat) (w : World) (_hl : len ≤ 9223372036854775807) (hT : AsksN w b o len) :
    Calls Try.prog 5 #[.slice (some ⟨b, o, none⟩) len cap] w fun e w' => e = .returned (.bool true) ∧ Ext w w' := by
  have HT := Lib.hid hT
  obtain ⟨i0, hi0, hz0, hz1, hz2⟩ := info_parts i64_info
  clear hT
  go_enter Try.func5, Try.ntmps5
  go_wp2_with fail
  go_loopw [3] (fun i wr => ∃ k : Nat, k ≤ len ∧ i = .int .i64 k ∧ Ext w wr) (fun i _ => len - (intOf i).toNat)
  case atStart => exact ⟨0, Nat.zero_le _, rfl, Ext.refl _⟩
  case round =>
    obtain ⟨k, hk, rfl, hext⟩ := hrel
    obtain ⟨wo, rfl⟩ : ∃ wo : World, wo = wr := ⟨_, rfl⟩
    by_cases hlt : k < len ∧ k < 4
    · obtain ⟨h1, h2⟩ := hlt
      obtain ⟨s, d, xs, ds, E, W, F, t0, -, -, -, -, -⟩ := HT.out k h1
      obtain ⟨c0, c1, c2, c3, c4, r0, r1⟩ := t0.ext hext
      obtain ⟨f, gf, FC⟩ := F_some F
      have F1 := Lib.hid FC
      have HV := Lib.hid (fun v (x : Ext wo v) => heavyT_any (m := 24) (r0.ext x) (r1.ext x))
      have MA := Lib.hid (fun v (x : Ext wo v) => may8_any (r0.ext x) (r1.ext x))
      have R0 := Lib.hid r0
      have R1 := Lib.hid r1
      obtain ⟨a0, p0, rfl, -⟩ := r0.form
      obtain ⟨a1, p1, rfl, -⟩ := r1.form
      clear r0 r1 t0 FC
      by_cases hhv : 24 < (ds.length : Int) ∨ 8 < (xs.length : Int)
      · rw [show (decide (24 < (ds.length : Int)) || decide (8 < (xs.length : Int))) = true by simpa using hhv] at HV
        go_wp2_with fail; refine (HV.out _ (by repeat (first | with_reducible exact Ext.refl _ | with_reducible apply Ext.drew | with_reducible apply Ext.drewN | with_reducible apply Ext.alloc | ((with_reducible refine Ext.setCell ?_ ?_ _); rotate_left; focus (first | (simp; done) | (simp; omega) | omega)) | with_reducible refine Ext.tr ?_ x1 | with_reducible refine Ext.tr ?_ x2 | with_reducible refine Ext.tr ?_ x3 | with_reducible refine Ext.tr ?_ x4 | with_reducible refine Ext.tr ?_ x6 | with_reducible refine Ext.tr ?_ hx | with_reducible refine Ext.tr ?_ hext | with_reducible assumption))).mono ?_; rintro e v1 ⟨rfl, x1⟩; obtain ⟨c1, f1⟩ := x1.rules; have z1 := x1.size; have k1_wo_heap_size_0 := c1 (wo.heap.size) 0 (by first | (simp; done) | (simp; omega) | omega); have q1_wo_heap_size_0 := f1 (wo.heap.size) 0 (by first | (simp; done) | (simp; omega) | omega); have k1_wo_heap_size_1 := c1 (wo.heap.size) 1 (by first | (simp; done) | (simp; omega) | omega); have q1_wo_heap_size_1 := f1 (wo.heap.size) 1 (by first | (simp; done) | (simp; omega) | omega); have k1_wo_heap_size_2 := c1 (wo.heap.size) 2 (by first | (simp; done) | (simp; omega) | omega); have q1_wo_heap_size_2 := f1 (wo.heap.size) 2 (by first | (simp; done) | (simp; omega) | omega); have k1_wo_heap_size_3 := c1 (wo.heap.size) 3 (by first | (simp; done) | (simp; omega) | omega); have q1_wo_heap_size_3 := f1 (wo.heap.size) 3 (by first | (simp; done) | (simp; omega) | omega); have k1_wo_heap_size_4 := c1 (wo.heap.size) 4 (by first | (simp; done) | (simp; omega) | omega); have q1_wo_heap_size_4 := f1 (wo.heap.size) 4 (by first | (simp; done) | (simp; omega) | omega); have z1_wo_heap_size : wo.heap.size < v1.heap.size := (by (try simp at z1); omega); (try simp at z1); clear c1 f1; simp [go_sem, *] at k1_wo_heap_size_0 q1_wo_heap_size_0 k1_wo_heap_size_1 q1_wo_heap_size_1 k1_wo_heap_size_2 q1_wo_heap_size_2 k1_wo_heap_size_3 q1_wo_heap_size_3 k1_wo_heap_size_4 q1_wo_heap_size_4
        go_wp2
        go_ret
        exact ⟨rfl, (by repeat (first | with_reducible exact Ext.refl _ | with_reducible apply Ext.drew | with_reducible apply Ext.drewN | with_reducible apply Ext.alloc | ((with_reducible refine Ext.setCell ?_ ?_ _); rotate_left; focus (first | (simp; done) | (simp; omega) | omega)) | with_reducible refine Ext.tr ?_ x1 | with_reducible refine Ext.tr ?_ x2 | with_reducible refine Ext.tr ?_ x3 | with_reducible refine Ext.tr ?_ x4 | with_reducible refine Ext.tr ?_ x6 | with_reducible refine Ext.tr ?_ hx | with_reducible refine Ext.tr ?_ hext | with_reducible assumption))⟩
      rw [show (decide (24 < (ds.length : Int)) || decide (8 < (xs.length : Int))) = false by simpa using hhv] at HV
      have h24 : ds.length ≤ 24 := by omega
      have h8 : xs.length ≤ 8 := by omega
      clear hhv
      go_wp2_with fail; refine (HV.out _ (by repeat (first | with_reducible exact Ext.refl _ | with_reducible apply Ext.drew | with_reducible apply Ext.drewN | with_reducible apply Ext.alloc | ((with_reducible refine Ext.setCell ?_ ?_ _); rotate_left; focus (first | (simp; done) | (simp; omega) | omega)) | with_reducible refine Ext.tr ?_ x1 | with_reducible refine Ext.tr ?_ x2 | with_reducible refine Ext.tr ?_ x3 | with_reducible refine Ext.tr ?_ x4 | with_reducible refine Ext.tr ?_ x6 | with_reducible refine Ext.tr ?_ hx | with_reducible refine Ext.tr ?_ hext | with_reducible assumption))).mono ?_; rintro e v1 ⟨rfl, x1⟩; obtain ⟨c1, f1⟩ := x1.rules; have z1 := x1.size; have k1_wo_heap_size_0 := c1 (wo.heap.size) 0 (by first | (simp; done) | (simp; omega) | omega); have q1_wo_heap_size_0 := f1 (wo.heap.size) 0 (by first | (simp; done) | (simp; omega) | omega); have k1_wo_heap_size_1 := c1 (wo.heap.size) 1 (by first | (simp; done) | (simp; omega) | omega); have q1_wo_heap_size_1 := f1 (wo.heap.size) 1 (by first | (simp; done) | (simp; omega) | omega); have k1_wo_heap_size_2 := c1 (wo.heap.size) 2 (by first | (simp; done) | (simp; omega) | omega); have q1_wo_heap_size_2 := f1 (wo.heap.size) 2 (by first | (simp; done) | (simp; omega) | omega); have k1_wo_heap_size_3 := c1 (wo.heap.size) 3 (by first | (simp; done) | (simp; omega) | omega); have q1_wo_heap_size_3 := f1 (wo.heap.size) 3 (by first | (simp; done) | (simp; omega) | omega); have k1_wo_heap_size_4 := c1 (wo.heap.size) 4 (by first | (simp; done) | (simp; omega) | omega); have q1_wo_heap_size_4 := f1 (wo.heap.size) 4 (by first | (simp; done) | (simp; omega) | omega); have z1_wo_heap_size : wo.heap.size < v1.heap.size := (by (try simp at z1); omega); (try simp at z1); clear c1 f1; simp [go_sem, *] at k1_wo_heap_size_0 q1_wo_heap_size_0 k1_wo_heap_size_1 q1_wo_heap_size_1 k1_wo_heap_size_2 q1_wo_heap_size_2 k1_wo_heap_size_3 q1_wo_heap_size_3 k1_wo_heap_size_4 q1_wo_heap_size_4
      clear HV
      cases hA : tenB xs ds
      · rw [hA] at MA
        go_wp2_with fail; refine (MA.out _ (by repeat (first | with_reducible exact Ext.refl _ | with_reducible apply Ext.drew | with_reducible apply Ext.drewN | with_reducible apply Ext.alloc | ((with_reducible refine Ext.setCell ?_ ?_ _); rotate_left; focus (first | (simp; done) | (simp; omega) | omega)) | with_reducible refine Ext.tr ?_ x1 | with_reducible refine Ext.tr ?_ x2 | with_reducible refine Ext.tr ?_ x3 | with_reducible refine Ext.tr ?_ x4 | with_reducible refine Ext.tr ?_ x6 | with_reducible refine Ext.tr ?_ hx | with_reducible refine Ext.tr ?_ hext | with_reducible assumption))).mono ?_; rintro e v2 ⟨rfl, x2⟩; obtain ⟨c2, f2⟩ := x2.rules; have z2 := x2.size; have k2_wo_heap_size_0 := c2 (wo.heap.size) 0 (by first | (simp; done) | (simp; omega) | omega); have q2_wo_heap_size_0 := f2 (wo.heap.size) 0 (by first | (simp; done) | (simp; omega) | omega); have k2_wo_heap_size_1 := c2 (wo.heap.size) 1 (by first | (simp; done) | (simp; omega) | omega); have q2_wo_heap_size_1 := f2 (wo.heap.size) 1 (by first | (simp; done) | (simp; omega) | omega); have k2_wo_heap_size_2 := c2 (wo.heap.size) 2 (by first | (simp; done) | (simp; omega) | omega); have q2_wo_heap_size_2 := f2 (wo.heap.size) 2 (by first | (simp; done) | (simp; omega) | omega); have k2_wo_heap_size_3 := c2 (wo.heap.size) 3 (by first | (simp; done) | (simp; omega) | omega); have q2_wo_heap_size_3 := f2 (wo.heap.size) 3 (by first | (simp; done) | (simp; omega) | omega); have k2_wo_heap_size_4 := c2 (wo.heap.size) 4 (by first | (simp; done) | (simp; omega) | omega); have q2_wo_heap_size_4 := f2 (wo.heap.size) 4 (by first | (simp; done) | (simp; omega) | omega); have z2_wo_heap_size : wo.heap.size < v2.heap.size := (by (try simp at z2); omega); (try simp at z2); clear c2 f2; simp [go_sem, *] at k2_wo_heap_size_0 q2_wo_heap_size_0 k2_wo_heap_size_1 q2_wo_heap_size_1 k2_wo_heap_size_2 q2_wo_heap_size_2 k2_wo_heap_size_3 q2_wo_heap_size_3 k2_wo_heap_size_4 q2_wo_heap_size_4; (try clear k1_wo_heap_size_0); (try clear q1_wo_heap_size_0); (try clear k1_wo_heap_size_1); (try clear q1_wo_heap_size_1); (try clear k1_wo_heap_size_2); (try clear q1_wo_heap_size_2); (try clear k1_wo_heap_size_3); (try clear q1_wo_heap_size_3); (try clear k1_wo_heap_size_4); (try clear q1_wo_heap_size_4)
        go_wp2_with fail
        go_roundw
        case rel => exact ⟨k + 1, by omega, by go_num, (by repeat (first | with_reducible exact Ext.refl _ | with_reducible apply Ext.drew | with_reducible apply Ext.drewN | with_reducible apply Ext.alloc | ((with_reducible refine Ext.setCell ?_ ?_ _); rotate_left; focus (first | (simp; done) | (simp; omega) | omega)) | with_reducible refine Ext.tr ?_ x1 | with_reducible refine Ext.tr ?_ x2 | with_reducible refine Ext.tr ?_ x3 | with_reducible refine Ext.tr ?_ x4 | with_reducible refine Ext.tr ?_ x6 | with_reducible refine Ext.tr ?_ hx | with_reducible refine Ext.tr ?_ hext | with_reducible assumption))⟩
        case measure => simp [intOf]; omega
      rw [hA] at MA
      go_wp2_with fail; refine (MA.out _ (by repeat (first | with_reducible exact Ext.refl _ | with_reducible apply Ext.drew | with_reducible apply Ext.drewN | with_reducible apply Ext.alloc | ((with_reducible refine Ext.setCell ?_ ?_ _); rotate_left; focus (first | (simp; done) | (simp; omega) | omega)) | with_reducible refine Ext.tr ?_ x1 | with_reducible refine Ext.tr ?_ x2 | with_reducible refine Ext.tr ?_ x3 | with_reducible refine Ext.tr ?_ x4 | with_reducible refine Ext.tr ?_ x6 | with_reducible refine Ext.tr ?_ hx | with_reducible refine Ext.tr ?_ hext | with_reducible assumption))).mono ?_; rintro e v2 ⟨rfl, x2⟩; obtain ⟨c2, f2⟩ := x2.rules; have z2 := x2.size; have k2_wo_heap_size_0 := c2 (wo.heap.size) 0 (by first | (simp; done) | (simp; omega) | omega); have q2_wo_heap_size_0 := f2 (wo.heap.size) 0 (by first | (simp; done) | (simp; omega) | omega); have k2_wo_heap_size_1 := c2 (wo.heap.size) 1 (by first | (simp; done) | (simp; omega) | omega); have q2_wo_heap_size_1 := f2 (wo.heap.size) 1 (by first | (simp; done) | (simp; omega) | omega); have k2_wo_heap_size_2 := c2 (wo.heap.size) 2 (by first | (simp; done) | (simp; omega) | omega); have q2_wo_heap_size_2 := f2 (wo.heap.size) 2 (by first | (simp; done) | (simp; omega) | omega); have k2_wo_heap_size_3 := c2 (wo.heap.size) 3 (by first | (simp; done) | (simp; omega) | omega); have q2_wo_heap_size_3 := f2 (wo.heap.size) 3 (by first | (simp; done) | (simp; omega) | omega); have k2_wo_heap_size_4 := c2 (wo.heap.size) 4 (by first | (simp; done) | (simp; omega) | omega); have q2_wo_heap_size_4 := f2 (wo.heap.size) 4 (by first | (simp; done) | (simp; omega) | omega); have z2_wo_heap_size : wo.heap.size < v2.heap.size := (by (try simp at z2); omega); (try simp at z2); clear c2 f2; simp [go_sem, *] at k2_wo_heap_size_0 q2_wo_heap_size_0 k2_wo_heap_size_1 q2_wo_heap_size_1 k2_wo_heap_size_2 q2_wo_heap_size_2 k2_wo_heap_size_3 q2_wo_heap_size_3 k2_wo_heap_size_4 q2_wo_heap_size_4; (try clear k1_wo_heap_size_0); (try clear q1_wo_heap_size_0); (try clear k1_wo_heap_size_1); (try clear q1_wo_heap_size_1); (try clear k1_wo_heap_size_2); (try clear q1_wo_heap_size_2); (try clear k1_wo_heap_size_3); (try clear q1_wo_heap_size_3); (try clear k1_wo_heap_size_4); (try clear q1_wo_heap_size_4)
      clear MA
      by_cases hx0 : xs.length = 0
      · have hxb : ((xs.length : Int) == 0) = true := by simp [hx0]
        clear hx0
        go_wp2_with fail
        go_roundw
        case rel => exact ⟨k + 1, by omega, by go_num, (by repeat (first | with_reducible exact Ext.refl _ | with_reducible apply Ext.drew | with_reducible apply Ext.drewN | with_reducible apply Ext.alloc | ((with_reducible refine Ext.setCell ?_ ?_ _); rotate_left; focus (first | (simp; done) | (simp; omega) | omega)) | with_reducible refine Ext.tr ?_ x1 | with_reducible refine Ext.tr ?_ x2 | with_reducible refine Ext.tr ?_ x3 | with_reducible refine Ext.tr ?_ x4 | with_reducible refine Ext.tr ?_ x6 | with_reducible refine Ext.tr ?_ hx | with_reducible refine Ext.tr ?_ hext | with_reducible assumption))⟩
        case measure => simp [intOf]; omega
      have hxb : ((xs.length : Int) == 0) = false := by rw [beq_eq_false_iff_ne]; omega
      by_cases hE : E ≤ 0
      · go_wp2_with fail
        go_roundw
        case rel => exact ⟨k + 1, by omega, by go_num, (by repeat (first | with_reducible exact Ext.refl _ | with_reducible apply Ext.drew | with_reducible apply Ext.drewN | with_reducible apply Ext.alloc | ((with_reducible refine Ext.setCell ?_ ?_ _); rotate_left; focus (first | (simp; done) | (simp; omega) | omega)) | with_reducible refine Ext.tr ?_ x1 | with_reducible refine Ext.tr ?_ x2 | with_reducible refine Ext.tr ?_ x3 | with_reducible refine Ext.tr ?_ x4 | with_reducible refine Ext.tr ?_ x6 | with_reducible refine Ext.tr ?_ hx | with_reducible refine Ext.tr ?_ hext | with_reducible assumption))⟩
        case measure => simp [intOf]; omega
      have hE0 : 0 < E := by omega
      cases hG : gd E
      · have M2 := Lib.hid (fun u => may2_any E u)
        rw [hG] at M2
        go_wp2_with fail; refine (M2.out _).mono ?_; rintro e w' ⟨rfl, rfl⟩
        go_wp2_with fail
        go_roundw
        case rel => exact ⟨k + 1, by omega, by go_num, (by repeat (first | with_reducible exact Ext.refl _ | with_reducible apply Ext.drew | with_reducible apply Ext.drewN | with_reducible apply Ext.alloc | ((with_reducible refine Ext.setCell ?_ ?_ _); rotate_left; focus (first | (simp; done) | (simp; omega) | omega)) | with_reducible refine Ext.tr ?_ x1 | with_reducible refine Ext.tr ?_ x2 | with_reducible refine Ext.tr ?_ x3 | with_reducible refine Ext.tr ?_ x4 | with_reducible refine Ext.tr ?_ x6 | with_reducible refine Ext.tr ?_ hx | with_reducible refine Ext.tr ?_ hext | with_reducible assumption))⟩
        case measure => simp [intOf]; omega
      have M2 := Lib.hid (fun u => may2_any E u)
      rw [hG] at M2
      go_wp2_with fail; refine (M2.out _).mono ?_; rintro e w' ⟨rfl, rfl⟩
      go_wp2_with fail; refine (F1.out _).mono ?_; rintro e w' ⟨rfl, rfl⟩
      clear M2 F1
      obtain ⟨n, hn⟩ := last_nat hA (show 0 < xs.length by omega)
      obtain ⟨m, hm, hm0, n0⟩ := rows_of hA (show 0 < xs.length by omega) hn
      have R13 := Lib.hid (fun v (x : Ext wo v) => rows13_any (R0.out.ext x) (R1.out.ext x) (by omega) (by omega) n hn)
      have NM := Lib.hid (fun v (x : Ext wo v) => nNorm_ok (eps := E) (f := f) (R0.out.ext x) (R1.out.ext x) hA hG hE0 gf (by omega) h24 n hn)
      have RT := Lib.hid (fun A hA2 => rev_ten (A := A) hA (show 0 < xs.length by omega) hn hm hA2)
      have GF := Lib.hid gf
      have HG := Lib.hid hG
      have HM := Lib.hid hm
      clear hm hn hA gf hG R0
      go_wp2_with fail
      refine (R13.out _ (by repeat (first | with_reducible exact Ext.refl _ | with_reducible apply Ext.drew | with_reducible apply Ext.drewN | with_reducible apply Ext.alloc | ((with_reducible refine Ext.setCell ?_ ?_ _); rotate_left; focus (first | (simp; done) | (simp; omega) | omega)) | with_reducible refine Ext.tr ?_ x1 | with_reducible refine Ext.tr ?_ x2 | with_reducible refine Ext.tr ?_ x3 | with_reducible refine Ext.tr ?_ x4 | with_reducible refine Ext.tr ?_ x6 | with_reducible refine Ext.tr ?_ hx | with_reducible refine Ext.tr ?_ hext | with_reducible assumption))).mono ?_; rintro e v3 ⟨rfl, x3⟩; obtain ⟨c3, f3⟩ := x3.rules; have z3 := x3.size; have k3_wo_heap_size_0 := c3 (wo.heap.size) 0 (by first | (simp; done) | (simp; omega) | omega); have q3_wo_heap_size_0 := f3 (wo.heap.size) 0 (by first | (simp; done) | (simp; omega) | omega); have k3_wo_heap_size_1 := c3 (wo.heap.size) 1 (by first | (simp; done) | (simp; omega) | omega); have q3_wo_heap_size_1 := f3 (wo.heap.size) 1 (by first | (simp; done) | (simp; omega) | omega); have k3_wo_heap_size_2 := c3 (wo.heap.size) 2 (by first | (simp; done) | (simp; omega) | omega); have q3_wo_heap_size_2 := f3 (wo.heap.size) 2 (by first | (simp; done) | (simp; omega) | omega); have k3_wo_heap_size_3 := c3 (wo.heap.size) 3 (by first | (simp; done) | (simp; omega) | omega); have q3_wo_heap_size_3 := f3 (wo.heap.size) 3 (by first | (simp; done) | (simp; omega) | omega); have k3_wo_heap_size_4 := c3 (wo.heap.size) 4 (by first | (simp; done) | (simp; omega) | omega); have q3_wo_heap_size_4 := f3 (wo.heap.size) 4 (by first | (simp; done) | (simp; omega) | omega); have z3_wo_heap_size : wo.heap.size < v3.heap.size := (by (try simp at z3); omega); (try simp at z3); clear c3 f3; simp [go_sem, *] at k3_wo_heap_size_0 q3_wo_heap_size_0 k3_wo_heap_size_1 q3_wo_heap_size_1 k3_wo_heap_size_2 q3_wo_heap_size_2 k3_wo_heap_size_3 q3_wo_heap_size_3 k3_wo_heap_size_4 q3_wo_heap_size_4
      go_wp2_with fail; refine (NM.out _ (by repeat (first | with_reducible exact Ext.refl _ | with_reducible apply Ext.drew | with_reducible apply Ext.drewN | with_reducible apply Ext.alloc | ((with_reducible refine Ext.setCell ?_ ?_ _); rotate_left; focus (first | (simp; done) | (simp; omega) | omega)) | with_reducible refine Ext.tr ?_ x1 | with_reducible refine Ext.tr ?_ x2 | with_reducible refine Ext.tr ?_ x3 | with_reducible refine Ext.tr ?_ x4 | with_reducible refine Ext.tr ?_ x6 | with_reducible refine Ext.tr ?_ hx | with_reducible refine Ext.tr ?_ hext | with_reducible assumption))).mono ?_; rintro e v4 ⟨nv, rfl, x4, nr⟩; obtain ⟨c4, f4⟩ := x4.rules; have z4 := x4.size; have k4_wo_heap_size_0 := c4 (wo.heap.size) 0 (by first | (simp; done) | (simp; omega) | omega); have q4_wo_heap_size_0 := f4 (wo.heap.size) 0 (by first | (simp; done) | (simp; omega) | omega); have k4_wo_heap_size_1 := c4 (wo.heap.size) 1 (by first | (simp; done) | (simp; omega) | omega); have q4_wo_heap_size_1 := f4 (wo.heap.size) 1 (by first | (simp; done) | (simp; omega) | omega); have k4_wo_heap_size_2 := c4 (wo.heap.size) 2 (by first | (simp; done) | (simp; omega) | omega); have q4_wo_heap_size_2 := f4 (wo.heap.size) 2 (by first | (simp; done) | (simp; omega) | omega); have k4_wo_heap_size_3 := c4 (wo.heap.size) 3 (by first | (simp; done) | (simp; omega) | omega); have q4_wo_heap_size_3 := f4 (wo.heap.size) 3 (by first | (simp; done) | (simp; omega) | omega); have k4_wo_heap_size_4 := c4 (wo.heap.size) 4 (by first | (simp; done) | (simp; omega) | omega); have q4_wo_heap_size_4 := f4 (wo.heap.size) 4 (by first | (simp; done) | (simp; omega) | omega); have z4_wo_heap_size : wo.heap.size < v4.heap.size := (by (try simp at z4); omega); (try simp at z4); clear c4 f4; simp [go_sem, *] at k4_wo_heap_size_0 q4_wo_heap_size_0 k4_wo_heap_size_1 q4_wo_heap_size_1 k4_wo_heap_size_2 q4_wo_heap_size_2 k4_wo_heap_size_3 q4_wo_heap_size_3 k4_wo_heap_size_4 q4_wo_heap_size_4
      obtain ⟨g1, q1, cur, g2, zs, rfl, -, -, -, -, -, hb2, -, -, hzl, hN⟩ := nr.is
      have B2 := Lib.hid hb2
      have ZL := Lib.hid hzl
      have HN := Lib.hid hN
      clear nr hb2 hzl hN NM R13
      go_wp2_with (go_at_call 31; refine (num14_any _ _).mono ?_; rintro e w' ⟨rfl, rfl⟩)
      obtain ⟨V, hV⟩ : ∃ V : World, v4.alloc (.cells #[.slice (some ⟨g1, 0, none⟩) xs.length q1, .slice (some ⟨g2, 0, none⟩) ds.length ds.length] 44) = V := ⟨_, rfl⟩
      have kp1 : V.cell? ⟨wo.heap.size, 1, none⟩ = some (.slice a1 ds.length p1) := by rw [← hV]; exact Lib.cell?_alloc_some _ k4_wo_heap_size_1
      have kp2 : V.cell? ⟨wo.heap.size, 2, none⟩ = some (.int .i64 E) := by rw [← hV]; exact Lib.cell?_alloc_some _ k4_wo_heap_size_2
      have ka1 : V.cell? ⟨v4.heap.size, 1, none⟩ = some (.slice (some ⟨g2, 0, none⟩) ds.length ds.length) := by rw [← hV]; simp [go_sem]
      have xV : Ext wo V := by rw [← hV]; exact (by repeat (first | with_reducible exact Ext.refl _ | with_reducible apply Ext.drew | with_reducible apply Ext.drewN | with_reducible apply Ext.alloc | ((with_reducible refine Ext.setCell ?_ ?_ _); rotate_left; focus (first | (simp; done) | (simp; omega) | omega)) | with_reducible refine Ext.tr ?_ x1 | with_reducible refine Ext.tr ?_ x2 | with_reducible refine Ext.tr ?_ x3 | with_reducible refine Ext.tr ?_ x4 | with_reducible refine Ext.tr ?_ x6 | with_reducible refine Ext.tr ?_ hx | with_reducible refine Ext.tr ?_ hext | with_reducible assumption))
      have bV := B2.out.alloc (.cells #[.slice (some ⟨g1, 0, none⟩) xs.length q1, .slice (some ⟨g2, 0, none⟩) ds.length ds.length] 44)
      rw [hV] at bV ⊢
      obtain ⟨pa, hpa⟩ : ∃ pa, v4.heap.size = pa := ⟨_, rfl⟩
      obtain ⟨pp, hpp⟩ : ∃ pp, wo.heap.size = pp := ⟨_, rfl⟩
      rw [hpa] at ka1 ⊢
      rw [hpp] at kp1 kp2 ⊢
      have BV := Lib.hid bV
      have XV := Lib.hid xV
      have XW := Lib.hid (hext.tr xV)
      clear hV hpa hpp x1 x2 x3 x4 c0 c1 c2 c3 c4 z1 z2 z3 z4 B2 bV xV hext
      obtain ⟨bd, od, rfl, cd⟩ := hxc_of R1.out (by intro e; subst e; simp at hm0)
      have CD := Lib.hid cd
      clear cd
      go_loopw [9] (fun a wr => ∃ j A : Nat, j ≤ m ∧ j * n = A ∧ a = .int .i64 (A : Int) ∧ Ext V wr) (fun a _ => ds.length + 1 - (intOf a).toNat)
      case atStart => exact ⟨0, 0, Nat.zero_le _, by simp, rfl, Ext.refl _⟩
      case round =>
        obtain ⟨j, A, hj, hjA, rfl, hx⟩ := hrel
        obtain ⟨V1, rfl⟩ : ∃ V1 : World, V1 = wr := ⟨_, rfl⟩
        have HJA := Lib.hid hjA
        have lp1 := hx.cell kp1
        have lp2 := hx.cell kp2
        have la1 := hx.cell ka1
        rcases Nat.lt_or_ge j m with hlt | hge
        · have hAn : A + n ≤ ds.length := by
            have := Nat.mul_le_mul_right n (show j + 1 ≤ m by omega)
            rw [Nat.add_mul, hjA] at this
            have := HM.out
            omega
          have hA1 : (A : Int) < (ds.length : Int) := by omega
          have ws : IntKind.i64.wrap ((n : Int) - 1) = (n : Int) - 1 := by rw [IntKind.wrap_i64]; omega
          clear hjA
          go_wp2_with fail
          go_loopw [11] (fun kv wr => ∃ (q : Nat) (v : Value), q ≤ n ∧ kv = .int .i64 ((n : Int) - 1 - q) ∧ Blk wr V1.heap.size 3 #[.int .i64 n] ∧ Blk wr (V1.heap.size + 1) 44 #[.slice (some ⟨V1.heap.size, 0, none⟩) 1 1, v] ∧ wr.ownsRow (V1.heap.size + 1 + 1) 2 1 v q ((revL ds n A q).map (Value.int .i64)) ∧ Ext V1 wr) (fun kv _ => (intOf kv + 1).toNat)
          case atStart => exact ⟨0, .slice none 0 0, Nat.zero_le _, by simp, (Blk.new V1 _ _).alloc _, by simpa using Blk.new (V1.alloc _) _ _, World.ownsRow_nil _ _ _ _, (by repeat (first | with_reducible exact Ext.refl _ | with_reducible apply Ext.drew | with_reducible apply Ext.drewN | with_reducible apply Ext.alloc | ((with_reducible refine Ext.setCell ?_ ?_ _); rotate_left; focus (first | (simp; done) | (simp; omega) | omega)) | with_reducible refine Ext.tr ?_ x1 | with_reducible refine Ext.tr ?_ x2 | with_reducible refine Ext.tr ?_ x3 | with_reducible refine Ext.tr ?_ x4 | with_reducible refine Ext.tr ?_ x6 | with_reducible refine Ext.tr ?_ hx | with_reducible refine Ext.tr ?_ hext | with_reducible assumption))⟩
          case round =>
            clear ws
            obtain ⟨q, v, hq, rfl, t0, t1, hown, hy⟩ := hrel
            obtain ⟨wq, rfl⟩ : ∃ wq : World, wq = wr := ⟨_, rfl⟩
            rcases Nat.lt_or_ge q n with hlq | hgq
            · obtain ⟨I, hI⟩ : ∃ I : Nat, A + (n - 1 - q) = I := ⟨_, rfl⟩
              have wk : IntKind.i64.wrap ((A : Int) + ((n : Int) - 1 - (q : Int))) = (I : Int) := by rw [IntKind.wrap_i64]; omega
              have wd : IntKind.i64.wrap ((n : Int) - 1 - (q : Int) - 1) = (n : Int) - 1 - ((q + 1 : Nat) : Int) := by rw [IntKind.wrap_i64]; omega
              have ge0 : (0 : Int) ≤ (n : Int) - 1 - (q : Int) := by omega
              have Ilt : I < ds.length := by omega
              have mp1 := hy.cell lp1
              have cI := ((XV.out.tr hx).tr hy).cell (CD.out I Ilt)
              have RS := Lib.hid (revL_succ ds n A q)
              rw [hI] at RS
              have k1 := (t1.cell 1).trans (show (#[.slice (some ⟨V1.heap.size, 0, none⟩) 1 1, v] : Array Value)[1]? = some v from rfl)
              have hrow := hown.lt
              have hn2 : q + 1 ≤ maxLen := by unfold maxLen; omega
              have hn3 : (q + 1) * 8 ≤ 140737488355328 := by omega
              have T0 := Lib.hid t0
              have T1 := Lib.hid t1
              have HY := Lib.hid hy
              have zq := t1.lt
              generalize ds.getD I 0 = x at cI RS
              clear hI t0 t1 hy
              go_wp2_with fail
              go_region_law (refine step_append_lies _ rfl (.tmp 101) (.tmp 110) 42 rfl (V1.heap.size + 1 + 1) 2 i0 (.int .i64 0) 1 8 Try.underlying42 hi0 hz0 hz1 hz2 rfl (by decide) v q ((revL ds n A q).map (Value.int .i64)) (by simp [Act.eval]) ((hown.alloc _).drew) ⟨wq.heap.size, 0, none⟩ 1 1 [.int .i64 x] (by simp [Act.eval]) rfl (World.news_of_block (cs := #[.int .i64 x]) (t := 2) (fr := (0, 0)) (heap_alloc_new wq _)) (by simp [Value.oneCell']) (by decide) hn2 hn3 (by simp; omega) (wq.heap.size + 1) (by simp) ?_; intro gg cc w1 hown1 hgrow hat hlt1; have t1' := ((T1.out.alloc (.cells #[.int .i64 x] 2)).drew).grown hgrow (fun e => by have := (hrow _ e.symm).1; omega); have k1' := (t1'.cell 1).trans (show (#[.slice (some ⟨V1.heap.size, 0, none⟩) 1 1, v] : Array Value)[1]? = some v from rfl); have f1' := t1'.frozen 1)
              all_goals
                have X1 : Ext V1 w1 := Ext.grown ((HY.out.alloc (.cells #[.int .i64 x] 2)).drew) hgrow (fun r hr => by have := (hrow r hr).1; omega)
                have t0' := ((T0.out.alloc (.cells #[.int .i64 x] 2)).drew).grown hgrow (fun e => by have := (hrow _ e.symm).1; omega)
                have OWN : Hid (w1.ownsRow (V1.heap.size + 1 + 1) 2 1 (.slice (some ⟨gg, 0, none⟩) (q + 1) cc) (q + 1) ((revL ds n A (q + 1)).map (Value.int .i64))) := Lib.hid (by rw [RS.out]; exact hown1)
                have T0' := Lib.hid t0'
                have T1' := Lib.hid t1'
                clear hown1 hgrow hat t0' t1' k1' f1'
                go_wp2
                go_roundw
                case rel => exact ⟨q + 1, .slice (some ⟨gg, 0, none⟩) (q + 1) cc, by omega, by first | rfl | (simp; done) | (simp; omega), T0'.out.far (by simp) _, T1'.out.set_ 1 _, ownsRow_setCell_below OWN.out (by simp) _, X1.setCell (by simp) _⟩
                case measure => simp [intOf]; omega
            · obtain rfl : n = q := by omega
              obtain ⟨va, vc, hv, -⟩ := Row.form' (Row.of_owns hown).1
              rw [(Row.of_owns hown).2] at hv
              subst hv
              have k0 := (t1.cell 0).trans (show (#[.slice (some ⟨V1.heap.size, 0, none⟩) 1 1, .slice va n vc] : Array Value)[0]? = some _ from rfl)
              have k1 := (t1.cell 1).trans (show (#[.slice (some ⟨V1.heap.size, 0, none⟩) 1 1, .slice va n vc] : Array Value)[1]? = some _ from rfl)
              have c00 := (t0.cell 0).trans (show (#[.int .i64 n] : Array Value)[0]? = some (.int .i64 n) from rfl)
              have mp2 := hy.cell lp2
              have RR := (Row.of_owns hown).1
              have NM2 := Lib.hid (fun u (x : Ext wq u) => nNorm_ok (eps := E) (f := f) (row_one (x.cell c00)) (RR.ext x) (RT.out A hAn) HG.out hE0 GF.out (by simp) (by rw [revL_len]; omega) n (by simp))
              have neg : ¬ (0 : Int) ≤ (n : Int) - 1 - (n : Int) := by omega
              have HY := Lib.hid hy
              clear t0 t1 hown hq hgq hy
              go_wp2_with fail
              refine (NM2.out _ (by repeat (first | with_reducible exact Ext.refl _ | with_reducible apply Ext.drew | with_reducible apply Ext.drewN | with_reducible apply Ext.alloc | ((with_reducible refine Ext.setCell ?_ ?_ _); rotate_left; focus (first | (simp; done) | (simp; omega) | omega)) | with_reducible refine Ext.tr ?_ x1 | with_reducible refine Ext.tr ?_ x2 | with_reducible refine Ext.tr ?_ x3 | with_reducible refine Ext.tr ?_ x4 | with_reducible refine Ext.tr ?_ x6 | with_reducible refine Ext.tr ?_ hx | with_reducible refine Ext.tr ?_ hext | with_reducible assumption))).mono ?_
              rintro e v6 ⟨nv2, rfl, x6, nr2⟩
              have nr3 := nr2.is
              rw [revL_len] at nr3
              obtain ⟨g3, q3, cur3, g4, ys, rfl, -, -, -, -, -, hb4, -, -, hyl, hN2⟩ := nr3
              have HN2 := Lib.hid hN2
              have YL := Lib.hid hyl
              obtain ⟨V6, hV6⟩ : ∃ V6 : World, v6.alloc (.cells #[.slice (some ⟨g3, 0, none⟩) 1 q3, .slice (some ⟨g4, 0, none⟩) n n] 44) = V6 := ⟨_, rfl⟩
              have kx : V6.cell? ⟨v6.heap.size, 1, none⟩ = some (.slice (some ⟨g4, 0, none⟩) n n) := by rw [← hV6]; simp [go_sem]
              have X16 : Hid (Ext V1 V6) := Lib.hid (by rw [← hV6]; exact (HY.out.tr (show Ext wq v6 from (by repeat (first | with_reducible exact Ext.refl _ | with_reducible apply Ext.drew | with_reducible apply Ext.drewN | with_reducible apply Ext.alloc | ((with_reducible refine Ext.setCell ?_ ?_ _); rotate_left; focus (first | (simp; done) | (simp; omega) | omega)) | with_reducible refine Ext.tr ?_ x1 | with_reducible refine Ext.tr ?_ x2 | with_reducible refine Ext.tr ?_ x3 | with_reducible refine Ext.tr ?_ x4 | with_reducible refine Ext.tr ?_ x6 | with_reducible refine Ext.tr ?_ hx | with_reducible refine Ext.tr ?_ hext | with_reducible assumption)))).alloc _)
              have HB4 : Hid (Blk V6 g4 2 (ints ys)) := Lib.hid (by rw [← hV6]; exact hb4.alloc _)
              clear nr2 hN2 hyl hb4 NM2 k0 k1 c00 mp2 RR
              by_cases hn1 : n = 1
              · have nb : ((n : Int) == 1) = true := by rw [beq_iff_eq]; omega
                have y0 := (HB4.out.cell 0).trans (ints_at ys 0 (by rw [YL.out]; omega))
                have e0 : ys.getD 0 0 = 0 := by
                  have h := HN2.out
                  rw [hn1] at h
                  exact rev_one hE0 h
                rw [e0] at y0
                clear e0 hn1
                go_wp2_with (go_at_call 31; refine (num14_any _ _).mono ?_; rintro e w' ⟨rfl, rfl⟩)
                (try rw [hV6])
                generalize v6.heap.size = p6 at *
                clear hV6
                go_loopw [14] (fun kv wr => ∃ c : Nat, c ≤ n ∧ kv = .int .i64 (c : Int) ∧ Ext V6 wr) (fun kv _ => n - (intOf kv).toNat)
                case atStart => exact ⟨0, Nat.zero_le _, rfl, Ext.refl _⟩
                case round =>
                  obtain ⟨c, hc, rfl, h6⟩ := hrel
                  obtain ⟨w6, rfl⟩ : ∃ w6 : World, w6 = wr := ⟨_, rfl⟩
                  have X6 := h6.cell kx
                  have la6 := (X16.out.tr h6).cell la1
                  rcases Nat.lt_or_ge c n with hlc | hgc
                  · obtain ⟨I1, hI1⟩ : ∃ I1 : Nat, n - 1 - c = I1 := ⟨_, rfl⟩
                    obtain ⟨I2, hI2⟩ : ∃ I2 : Nat, A + c = I2 := ⟨_, rfl⟩
                    have wa : IntKind.i64.wrap ((n : Int) - 1) = ((n - 1 : Nat) : Int) := by rw [IntKind.wrap_i64]; omega
                    have wb : IntKind.i64.wrap (((n - 1 : Nat) : Int) - (c : Int)) = (I1 : Int) := by rw [IntKind.wrap_i64]; omega
                    have wc : IntKind.i64.wrap ((A : Int) + (c : Int)) = (I2 : Int) := by rw [IntKind.wrap_i64]; omega
                    have l1 : I1 < n := by omega
                    have l2 : I2 < ds.length := by omega
                    have ky := (((HB4.out.ext h6).cell I1).trans (ints_at ys I1 (by rw [YL.out]; exact l1)))
                    have kz := ((BV.out.ext ((hx.tr X16.out).tr h6)).cell I2).trans (ints_at zs I2 (by rw [ZL.out]; exact l2))
                    have same := rev_same HJA.out hlc hAn hE0 HN.out HN2.out
                    rw [hI1, hI2] at same
                    rw [same] at ky
                    generalize zs.getD I2 0 = X at ky kz
                    have H6 := Lib.hid h6
                    clear hI1 hI2 same h6
                    go_wp2_with fail
                    go_quiet (fail)
                    go_wp2_with fail
                    go_roundw
                    case rel => exact ⟨c + 1, by omega, by go_num, Ext.tr H6.out (by repeat (first | with_reducible exact Ext.refl _ | with_reducible apply Ext.drew | with_reducible apply Ext.drewN | with_reducible apply Ext.alloc | ((with_reducible refine Ext.setCell ?_ ?_ _); rotate_left; focus (first | (simp; done) | (simp; omega) | omega)) | with_reducible refine Ext.tr ?_ x1 | with_reducible refine Ext.tr ?_ x2 | with_reducible refine Ext.tr ?_ x3 | with_reducible refine Ext.tr ?_ x4 | with_reducible refine Ext.tr ?_ x6 | with_reducible refine Ext.tr ?_ hx | with_reducible refine Ext.tr ?_ hext | with_reducible assumption))⟩
                    case measure => simp [intOf]; omega
                  · obtain rfl : c = n := by omega
                    have wA : IntKind.i64.wrap ((A : Int) + (c : Int)) = ((A + c : Nat) : Int) := by rw [IntKind.wrap_i64]; omega
                    have PL := Lib.hid (show (j + 1) * c = A + c by rw [Nat.add_mul, HJA.out, Nat.one_mul])
                    have H6 := Lib.hid ((hx.tr X16.out).tr h6)
                    clear h6
                    go_wp2_with fail
                    go_roundw
                    case rel => exact ⟨j + 1, A + c, by omega, PL.out, by first | rfl | (simp; done), H6.out⟩
                    case measure => simp [intOf]; omega
              · have nb : ((n : Int) == 1) = false := by rw [beq_eq_false_iff_ne]; omega
                go_wp2_with (go_at_call 31; refine (num14_any _ _).mono ?_; rintro e w' ⟨rfl, rfl⟩)
                (try rw [hV6])
                generalize v6.heap.size = p6 at *
                clear hV6
                go_loopw [14] (fun kv wr => ∃ c : Nat, c ≤ n ∧ kv = .int .i64 (c : Int) ∧ Ext V6 wr) (fun kv _ => n - (intOf kv).toNat)
                case atStart => exact ⟨0, Nat.zero_le _, rfl, Ext.refl _⟩
                case round =>
                  obtain ⟨c, hc, rfl, h6⟩ := hrel
                  obtain ⟨w6, rfl⟩ : ∃ w6 : World, w6 = wr := ⟨_, rfl⟩
                  have X6 := h6.cell kx
                  have la6 := (X16.out.tr h6).cell la1
                  rcases Nat.lt_or_ge c n with hlc | hgc
                  · obtain ⟨I1, hI1⟩ : ∃ I1 : Nat, n - 1 - c = I1 := ⟨_, rfl⟩
                    obtain ⟨I2, hI2⟩ : ∃ I2 : Nat, A + c = I2 := ⟨_, rfl⟩
                    have wa : IntKind.i64.wrap ((n : Int) - 1) = ((n - 1 : Nat) : Int) := by rw [IntKind.wrap_i64]; omega
                    have wb : IntKind.i64.wrap (((n - 1 : Nat) : Int) - (c : Int)) = (I1 : Int) := by rw [IntKind.wrap_i64]; omega
                    have wc : IntKind.i64.wrap ((A : Int) + (c : Int)) = (I2 : Int) := by rw [IntKind.wrap_i64]; omega
                    have l1 : I1 < n := by omega
                    have l2 : I2 < ds.length := by omega
                    have ky := (((HB4.out.ext h6).cell I1).trans (ints_at ys I1 (by rw [YL.out]; exact l1)))
                    have kz := ((BV.out.ext ((hx.tr X16.out).tr h6)).cell I2).trans (ints_at zs I2 (by rw [ZL.out]; exact l2))
                    have same := rev_same HJA.out hlc hAn hE0 HN.out HN2.out
                    rw [hI1, hI2] at same
                    rw [same] at ky
                    generalize zs.getD I2 0 = X at ky kz
                    have H6 := Lib.hid h6
                    clear hI1 hI2 same h6
                    go_wp2_with fail
                    go_quiet (fail)
                    go_wp2_with fail
                    go_roundw
                    case rel => exact ⟨c + 1, by omega, by go_num, Ext.tr H6.out (by repeat (first | with_reducible exact Ext.refl _ | with_reducible apply Ext.drew | with_reducible apply Ext.drewN | with_reducible apply Ext.alloc | ((with_reducible refine Ext.setCell ?_ ?_ _); rotate_left; focus (first | (simp; done) | (simp; omega) | omega)) | with_reducible refine Ext.tr ?_ x1 | with_reducible refine Ext.tr ?_ x2 | with_reducible refine Ext.tr ?_ x3 | with_reducible refine Ext.tr ?_ x4 | with_reducible refine Ext.tr ?_ x6 | with_reducible refine Ext.tr ?_ hx | with_reducible refine Ext.tr ?_ hext | with_reducible assumption))⟩
                    case measure => simp [intOf]; omega
                  · obtain rfl : c = n := by omega
                    have wA : IntKind.i64.wrap ((A : Int) + (c : Int)) = ((A + c : Nat) : Int) := by rw [IntKind.wrap_i64]; omega
                    have PL := Lib.hid (show (j + 1) * c = A + c by rw [Nat.add_mul, HJA.out, Nat.one_mul])
                    have H6 := Lib.hid ((hx.tr X16.out).tr h6)
                    clear h6
                    go_wp2_with fail
                    go_roundw
                    case rel => exact ⟨j + 1, A + c, by omega, PL.out, by first | rfl | (simp; done), H6.out⟩
                    case measure => simp [intOf]; omega
        · have hAe : A = ds.length := by
            have := HM.out
            have e : j = m := by omega
            rw [← hjA, e, this]
          subst hAe
          have H7 := Lib.hid (XW.out.tr hx)
          clear hjA hx
          go_wp2_with fail
          go_roundw
          case rel => exact ⟨k + 1, by omega, by go_num, H7.out⟩
          case measure => simp [intOf]; omega
    · have W := Lib.hid wakes14
      by_cases h1 : k < len
      · go_wp2_with fail
        refine (W.out _).mono ?_
        rintro e w' ⟨rfl, xw⟩
        go_wp2
        go_ret
        exact ⟨rfl, hext.tr xw⟩
      · go_wp2_with fail
        refine (W.out _).mono ?_
        rintro e w' ⟨rfl, xw⟩
        go_wp2
        go_ret
        exact ⟨rfl, hext.tr xw⟩
set_option maxRecDepth 100000 in
theorem nrows_zero (a : Option Addr) (cap : Nat) (w : World) :
    Calls Try.prog 5 #[.slice a 0 cap] w fun e w' => e = .returned (.bool true) ∧ Ext w w' := by
  have W := Lib.hid wakes14
  go_enter Try.func5, Try.ntmps5
  go_wp2_with fail
  refine wp_loop_rounds 1 ?_
  rw [rounds_succ]
  go_wp2_with fail; refine (W.out _).mono ?_; rintro e v1 ⟨rfl, x1⟩; obtain ⟨c1, f1⟩ := x1.rules; have z1 := x1.size
  go_wp2
  go_ret
  exact ⟨rfl, (by repeat (first | with_reducible exact Ext.refl _ | with_reducible apply Ext.drew | with_reducible apply Ext.drewN | with_reducible apply Ext.alloc | ((with_reducible refine Ext.setCell ?_ ?_ _); rotate_left; focus (first | (simp; done) | (simp; omega) | omega)) | with_reducible refine Ext.tr ?_ x1 | with_reducible refine Ext.tr ?_ x2 | with_reducible refine Ext.tr ?_ x3 | with_reducible refine Ext.tr ?_ x4 | with_reducible refine Ext.tr ?_ x6 | with_reducible refine Ext.tr ?_ hx | with_reducible refine Ext.tr ?_ hext | with_reducible assumption))⟩
set_option maxRecDepth 100000 in
theorem nrows_any {H : Type} {enc : TypeId × Value → H} {w : World} {base : Nat} {v : Value} {d : DataW H} {p : List MemPlace}
    (hv : Value.okWide Try.prog w .any base 62 v) (h : DataW.Trod enc Try.prog w 0 (fun _ => true) true 62 v d p) :
    Calls Try.prog 5 #[v] w fun e w' => e = .returned (.bool true) ∧ Ext w w' := by
  rcases askN_open hv h with ⟨a, cap, rfl⟩ | ⟨b, o, len, cap, rfl, h1, h2, h3⟩
  · exact nrows_zero a cap w
  · exact nrows_walk b o len cap w h2 h3
end Go.Proofs.Ytkdfenkpfffcaaa
