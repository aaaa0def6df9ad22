/- Package loss: Square and Huber, of tensors of one shape. -/
import Derived.Test.YtmbgaonnknaclaaHub
import Derived.Test.YtmbgaonnknaclaaAll
namespace Go.Proofs.Ytmbgaonnknaclaa
open Go.RowKit
attribute [local go_sem ↓] Go.wp_at_zero Go.wp_at_succ
theorem two_at {w : World} {g : Nat} {sa da sb db : Value} {xa ya xb yb : List Int} (h0 : w.cell? ⟨g, 0, none⟩ = some sa) (h1 : w.cell? ⟨g, 1, none⟩ = some da) (h2 : w.cell? ⟨g, 2, none⟩ = some sb) (h3 : w.cell? ⟨g, 3, none⟩ = some db)
    (r0 : Row .i64 w sa xa) (r1 : Row .i64 w da ya) (r2 : Row .i64 w sb xb) (r3 : Row .i64 w db yb) : TensAt w (some ⟨g, 0, none⟩) [(xa, ya), (xb, yb)] := fun i t hi => by
  match i, hi with
  | 0, hi => cases hi; exact ⟨g, 0, sa, da, rfl, by simpa using h0, by simpa using h1, r0, r1⟩
  | 1, hi => cases hi; exact ⟨g, 0, sb, db, rfl, by simpa using h2, by simpa using h3, r2, r3⟩
  | i + 2, hi => simp at hi
set_option maxHeartbeats 1000000 in
theorem check_ok {sa da sb db : Value} {xs ya yb : List Int} {f : Int} {w : World} (r0 : Row .i64 w sa xs) (r1 : Row .i64 w da ya) (r2 : Row .i64 w sb xs) (r3 : Row .i64 w db yb) (ta : tenB xs ya = true) (tb : tenB xs yb = true) (hf : gdF f = true) :
    Calls Try.prog 61 #[.agg #[sa, da], .agg #[sb, db], .int .i64 f] w fun e w' => e = .returned (.int .i64 0) ∧ Ext w w' := by
  have A : Hid (∀ (g : Nat) (v : World), Ext w v → v.cell? ⟨g, 0, none⟩ = some sa → v.cell? ⟨g, 1, none⟩ = some da → v.cell? ⟨g, 2, none⟩ = some sb → v.cell? ⟨g, 3, none⟩ = some db →
      Calls Try.prog 74 #[.slice (some ⟨g, 0, none⟩) 2 2] v fun e w' => e = .returned (.bool true) ∧ Ext v w') := Lib.hid (fun g v x h0 h1 h2 h3 => by
    have h := eall_any (cap := 2) (two_at h0 h1 h2 h3 (r0.ext x) (r1.ext x) (r2.ext x) (r3.ext x)) (by simp)
    have e : [(xs, ya), (xs, yb)].all tenP = true := by simp [tenP, ta, tb]
    rw [e] at h
    exact h)
  have Q := Lib.hid (fun v (x : Ext w v) => sEqual_any (r0.ext x) (r2.ext x))
  obtain ⟨a0, c0, rfl, -⟩ := r0.form
  obtain ⟨a1, c1, rfl, -⟩ := r1.form
  obtain ⟨a2, c2, rfl, -⟩ := r2.form
  obtain ⟨a3, c3, rfl, -⟩ := r3.form
  have e : decide (xs = xs) = true := by simp
  rw [e] at Q
  clear r0 r1 r2 r3 ta tb e
  go_enter Try.func61, Try.ntmps61
  go_wp2_with fail; refine (A.out _ _ (by repeat (first | with_reducible exact Ext.refl _ | with_reducible apply Ext.drew | with_reducible apply Ext.drewN | with_reducible apply Ext.alloc | ((with_reducible refine Ext.setCell ?_ ?_ _); rotate_left; focus (first | (simp; done) | (simp; omega) | omega)) | with_reducible refine Ext.tr ?_ x1 | with_reducible refine Ext.tr ?_ x2 | with_reducible refine Ext.tr ?_ xa | with_reducible refine Ext.tr ?_ xb | with_reducible assumption)) (by simp [go_sem]) (by simp [go_sem]) (by simp [go_sem]) (by simp [go_sem])).mono ?_; rintro e v1 ⟨rfl, x1⟩; obtain ⟨c1, f1⟩ := x1.rules; have z1 := x1.size; have k1_0_0 := c1 (w.heap.size) 0 (by first | (simp; done) | (simp; omega) | omega); have q1_0_0 := f1 (w.heap.size) 0 (by first | (simp; done) | (simp; omega) | omega); have k1_0_1 := c1 (w.heap.size) 1 (by first | (simp; done) | (simp; omega) | omega); have q1_0_1 := f1 (w.heap.size) 1 (by first | (simp; done) | (simp; omega) | omega); have k1_1_0 := c1 (w.heap.size + 1) 0 (by first | (simp; done) | (simp; omega) | omega); have q1_1_0 := f1 (w.heap.size + 1) 0 (by first | (simp; done) | (simp; omega) | omega); have k1_1_1 := c1 (w.heap.size + 1) 1 (by first | (simp; done) | (simp; omega) | omega); have q1_1_1 := f1 (w.heap.size + 1) 1 (by first | (simp; done) | (simp; omega) | omega); have z1_0 : w.heap.size < v1.heap.size := (by (try simp at z1); omega); have z1_1 : w.heap.size + 1 < v1.heap.size := (by (try simp at z1); omega); (try simp at z1); clear c1 f1; simp [go_sem, *] at k1_0_0 q1_0_0 k1_0_1 q1_0_1 k1_1_0 q1_1_0 k1_1_1 q1_1_1
  go_wp2_with fail; refine (goodF_any _ _).mono ?_; rintro e w' ⟨rfl, rfl⟩
  go_wp2_with fail
  refine (Q.out _ (by repeat (first | with_reducible exact Ext.refl _ | with_reducible apply Ext.drew | with_reducible apply Ext.drewN | with_reducible apply Ext.alloc | ((with_reducible refine Ext.setCell ?_ ?_ _); rotate_left; focus (first | (simp; done) | (simp; omega) | omega)) | with_reducible refine Ext.tr ?_ x1 | with_reducible refine Ext.tr ?_ x2 | with_reducible refine Ext.tr ?_ xa | with_reducible refine Ext.tr ?_ xb | with_reducible assumption))).mono ?_
  rintro e w' ⟨rfl, n2, rfl⟩
  go_wp2
  go_ret
  exact ⟨rfl, (by repeat (first | with_reducible exact Ext.refl _ | with_reducible apply Ext.drew | with_reducible apply Ext.drewN | with_reducible apply Ext.alloc | ((with_reducible refine Ext.setCell ?_ ?_ _); rotate_left; focus (first | (simp; done) | (simp; omega) | omega)) | with_reducible refine Ext.tr ?_ x1 | with_reducible refine Ext.tr ?_ x2 | with_reducible refine Ext.tr ?_ xa | with_reducible refine Ext.tr ?_ xb | with_reducible assumption))⟩
theorem ten_wd {xs ds : List Int} (h : tenB xs ds = true) : ds.all gd = true ∧ ds.length ≤ 65536 ∧ 0 < ds.length := by
  simp only [tenB, Bool.and_eq_true, decide_eq_true_eq] at h
  obtain ⟨⟨h1, h2⟩, h3⟩ := h
  obtain ⟨hd, hp⟩ := shp_dims h1
  have := (hd.take xs.length).1
  rw [List.take_of_length_le (Nat.le_refl _)] at this
  exact ⟨h3, by omega, by omega⟩
theorem ten_eq {xs ya yb : List Int} (h : tenB xs ya = true) (k : tenB xs yb = true) : ya.length = yb.length := by
  simp only [tenB, Bool.and_eq_true, decide_eq_true_eq] at h k
  omega
set_option maxHeartbeats 1000000 in
theorem square_any {sa da sb db : Value} {xs ya yb : List Int} {f : Int} {w : World} (r0 : Row .i64 w sa xs) (r1 : Row .i64 w da ya) (r2 : Row .i64 w sb xs) (r3 : Row .i64 w db yb) (ta : tenB xs ya = true) (tb : tenB xs yb = true) (hf : gdF f = true) :
    Calls Try.prog 22 #[.agg #[sa, da], .agg #[sb, db], .int .i64 f] w (meanRes (near (smL sqG ya yb ya.length) (1 * ya.length * p2 f)) w) := by
  have CK := Lib.hid (fun v (x : Ext w v) => check_ok (r0.ext x) (r1.ext x) (r2.ext x) (r3.ext x) ta tb hf)
  obtain ⟨g1, g2, g3⟩ := ten_wd ta
  obtain ⟨a1, c1, rfl, -⟩ := r1.form
  have MN := Lib.hid (fun v (x : Ext w v) => mean_any sqG sq_tells 63 #[] a1 c1 sb sa db ya yb f 1 v (enters_of Try.func63 (by kernel_rfl) rfl) (fun u v' _ h0 h1 => sq1_any u v' h0 h1) (r1.ext x) (r3.ext x) g1 (ten_wd tb).1 (ten_eq ta tb) g2 g3 hf (by decide) (by decide))
  obtain ⟨a0, c0, rfl, -⟩ := r0.form
  obtain ⟨a2, c2, rfl, -⟩ := r2.form
  obtain ⟨a3, c3, rfl, -⟩ := r3.form
  generalize near (smL sqG ya yb ya.length) (1 * ya.length * p2 f) = X at MN ⊢
  clear r0 r1 r2 r3 ta tb hf g1 g2 g3
  go_enter Try.func22, Try.ntmps22
  go_wp2_with fail; refine (CK.out _ (by repeat (first | with_reducible exact Ext.refl _ | with_reducible apply Ext.drew | with_reducible apply Ext.drewN | with_reducible apply Ext.alloc | ((with_reducible refine Ext.setCell ?_ ?_ _); rotate_left; focus (first | (simp; done) | (simp; omega) | omega)) | with_reducible refine Ext.tr ?_ x1 | with_reducible refine Ext.tr ?_ x2 | with_reducible refine Ext.tr ?_ xa | with_reducible refine Ext.tr ?_ xb | with_reducible assumption))).mono ?_; rintro e v1 ⟨rfl, x1⟩; obtain ⟨c1, f1⟩ := x1.rules; have z1 := x1.size; have k1_0_0 := c1 (w.heap.size) 0 (by first | (simp; done) | (simp; omega) | omega); have q1_0_0 := f1 (w.heap.size) 0 (by first | (simp; done) | (simp; omega) | omega); have k1_0_1 := c1 (w.heap.size) 1 (by first | (simp; done) | (simp; omega) | omega); have q1_0_1 := f1 (w.heap.size) 1 (by first | (simp; done) | (simp; omega) | omega); have k1_1_0 := c1 (w.heap.size + 1) 0 (by first | (simp; done) | (simp; omega) | omega); have q1_1_0 := f1 (w.heap.size + 1) 0 (by first | (simp; done) | (simp; omega) | omega); have k1_1_1 := c1 (w.heap.size + 1) 1 (by first | (simp; done) | (simp; omega) | omega); have q1_1_1 := f1 (w.heap.size + 1) 1 (by first | (simp; done) | (simp; omega) | omega); have k1_2_0 := c1 (w.heap.size + 2) 0 (by first | (simp; done) | (simp; omega) | omega); have q1_2_0 := f1 (w.heap.size + 2) 0 (by first | (simp; done) | (simp; omega) | omega); have k1_2_1 := c1 (w.heap.size + 2) 1 (by first | (simp; done) | (simp; omega) | omega); have q1_2_1 := f1 (w.heap.size + 2) 1 (by first | (simp; done) | (simp; omega) | omega); have z1_0 : w.heap.size < v1.heap.size := (by (try simp at z1); omega); have z1_1 : w.heap.size + 1 < v1.heap.size := (by (try simp at z1); omega); have z1_2 : w.heap.size + 2 < v1.heap.size := (by (try simp at z1); omega); (try simp at z1); clear c1 f1; simp [go_sem, *] at k1_0_0 q1_0_0 k1_0_1 q1_0_1 k1_1_0 q1_1_0 k1_1_1 q1_1_1 k1_2_0 q1_2_0 k1_2_1 q1_2_1
  go_wp2_with fail; refine (MN.out _ (by repeat (first | with_reducible exact Ext.refl _ | with_reducible apply Ext.drew | with_reducible apply Ext.drewN | with_reducible apply Ext.alloc | ((with_reducible refine Ext.setCell ?_ ?_ _); rotate_left; focus (first | (simp; done) | (simp; omega) | omega)) | with_reducible refine Ext.tr ?_ x1 | with_reducible refine Ext.tr ?_ x2 | with_reducible refine Ext.tr ?_ xa | with_reducible refine Ext.tr ?_ xb | with_reducible assumption))).mono ?_; rintro e v2 ⟨V, E, rfl, x2, m1, m2⟩; obtain ⟨c2, f2⟩ := x2.rules; have z2 := x2.size; have k2_2_0 := c2 (w.heap.size + 2) 0 (by first | (simp; done) | (simp; omega) | omega); have q2_2_0 := f2 (w.heap.size + 2) 0 (by first | (simp; done) | (simp; omega) | omega); have k2_2_1 := c2 (w.heap.size + 2) 1 (by first | (simp; done) | (simp; omega) | omega); have q2_2_1 := f2 (w.heap.size + 2) 1 (by first | (simp; done) | (simp; omega) | omega); have z2_0 : w.heap.size < v2.heap.size := (by (try simp at z2); omega); have z2_1 : w.heap.size + 1 < v2.heap.size := (by (try simp at z2); omega); have z2_2 : w.heap.size + 2 < v2.heap.size := (by (try simp at z2); omega); (try simp at z2); clear c2 f2; simp [go_sem, *] at k2_2_0 q2_2_0 k2_2_1 q2_2_1
  cases hg : gd X
  · obtain ⟨rfl, rfl⟩ := m2 hg
    have HG := Lib.hid hg
    clear m1 m2 hg
    go_wp2
    simp [bodyPost, results, Try.results22, go_sem, *]
    exact ⟨_, _, rfl, (by repeat (first | with_reducible exact Ext.refl _ | with_reducible apply Ext.drew | with_reducible apply Ext.drewN | with_reducible apply Ext.alloc | ((with_reducible refine Ext.setCell ?_ ?_ _); rotate_left; focus (first | (simp; done) | (simp; omega) | omega)) | with_reducible refine Ext.tr ?_ x1 | with_reducible refine Ext.tr ?_ x2 | with_reducible refine Ext.tr ?_ xa | with_reducible refine Ext.tr ?_ xb | with_reducible assumption)), fun h => absurd h (by rw [HG.out]; decide), fun _ => ⟨rfl, rfl⟩⟩
  · obtain ⟨rfl, gb, rfl, kb, lb⟩ := m1 hg
    have zb : w.heap.size + 1 + 1 < gb := by have := x1.size; (try simp at this); omega
    have HG := Lib.hid hg
    have KB := Lib.hid kb
    clear m1 m2 hg kb
    go_wp2
    simp [bodyPost, results, Try.results22, go_sem, *]
    exact ⟨_, _, rfl, (by repeat (first | with_reducible exact Ext.refl _ | with_reducible apply Ext.drew | with_reducible apply Ext.drewN | with_reducible apply Ext.alloc | ((with_reducible refine Ext.setCell ?_ ?_ _); rotate_left; focus (first | (simp; done) | (simp; omega) | omega)) | with_reducible refine Ext.tr ?_ x1 | with_reducible refine Ext.tr ?_ x2 | with_reducible refine Ext.tr ?_ xa | with_reducible refine Ext.tr ?_ xb | with_reducible assumption)), fun _ => ⟨rfl, gb, rfl, by rw [cell_set_far _ _ _ _ _ _ (by omega), cell_set_far _ _ _ _ _ _ (by omega)]; exact KB.out, by omega⟩, fun h => absurd h (by rw [HG.out]; decide)⟩
set_option maxHeartbeats 1000000 in
theorem huber_any {sa da sb db : Value} {xs ya yb : List Int} {d f : Int} {w : World} (r0 : Row .i64 w sa xs) (r1 : Row .i64 w da ya) (r2 : Row .i64 w sb xs) (r3 : Row .i64 w db yb) (ta : tenB xs ya = true) (tb : tenB xs yb = true) (hf : gdF f = true) (d0 : 0 < d) (d1 : d < 140737488355328) :
    Calls Try.prog 23 #[.agg #[sa, da], .agg #[sb, db], .int .i64 d, .int .i64 f] w (meanRes (near (smL (hubG d) ya yb ya.length) (2 * ya.length * p2 f)) w) := by
  have CK := Lib.hid (fun v (x : Ext w v) => check_ok (r0.ext x) (r1.ext x) (r2.ext x) (r3.ext x) ta tb hf)
  obtain ⟨g1, g2, g3⟩ := ten_wd ta
  obtain ⟨a1, c1, rfl, -⟩ := r1.form
  have MN := Lib.hid (fun (B : Nat) (v : World) (x : Ext w v) (hB : v.cell? ⟨B, 0, none⟩ = some (.int .i64 d)) => mean_any (hubG d) (hub_tells d0) 66 #[.pointer (some ⟨B, 0, none⟩)] a1 c1 sb sa db ya yb f 2 v (enters_of Try.func66 (by kernel_rfl) rfl) (fun u v' x' h0 h1 => hub1_any d u B v' (x'.cell hB) d0 d1 h0 h1) (r1.ext x) (r3.ext x) g1 (ten_wd tb).1 (ten_eq ta tb) g2 g3 hf (by decide) (by decide))
  obtain ⟨a0, c0, rfl, -⟩ := r0.form
  obtain ⟨a2, c2, rfl, -⟩ := r2.form
  obtain ⟨a3, c3, rfl, -⟩ := r3.form
  have gdd : gd d = true := gd_t (by omega) d1
  generalize near (smL (hubG d) ya yb ya.length) (2 * ya.length * p2 f) = X at MN ⊢
  clear r0 r1 r2 r3 ta tb hf g1 g2 g3
  go_enter Try.func23, Try.ntmps23
  go_wp2_with fail; refine (good_any _ _).mono ?_; rintro e w' ⟨rfl, rfl⟩
  go_wp2_with fail; refine (CK.out _ (by repeat (first | with_reducible exact Ext.refl _ | with_reducible apply Ext.drew | with_reducible apply Ext.drewN | with_reducible apply Ext.alloc | ((with_reducible refine Ext.setCell ?_ ?_ _); rotate_left; focus (first | (simp; done) | (simp; omega) | omega)) | with_reducible refine Ext.tr ?_ x1 | with_reducible refine Ext.tr ?_ x2 | with_reducible refine Ext.tr ?_ xa | with_reducible refine Ext.tr ?_ xb | with_reducible assumption))).mono ?_; rintro e v1 ⟨rfl, x1⟩; obtain ⟨c1, f1⟩ := x1.rules; have z1 := x1.size; have k1_0_0 := c1 (w.heap.size) 0 (by first | (simp; done) | (simp; omega) | omega); have q1_0_0 := f1 (w.heap.size) 0 (by first | (simp; done) | (simp; omega) | omega); have k1_0_1 := c1 (w.heap.size) 1 (by first | (simp; done) | (simp; omega) | omega); have q1_0_1 := f1 (w.heap.size) 1 (by first | (simp; done) | (simp; omega) | omega); have k1_1_0 := c1 (w.heap.size + 1) 0 (by first | (simp; done) | (simp; omega) | omega); have q1_1_0 := f1 (w.heap.size + 1) 0 (by first | (simp; done) | (simp; omega) | omega); have k1_1_1 := c1 (w.heap.size + 1) 1 (by first | (simp; done) | (simp; omega) | omega); have q1_1_1 := f1 (w.heap.size + 1) 1 (by first | (simp; done) | (simp; omega) | omega); have k1_2_0 := c1 (w.heap.size + 2) 0 (by first | (simp; done) | (simp; omega) | omega); have q1_2_0 := f1 (w.heap.size + 2) 0 (by first | (simp; done) | (simp; omega) | omega); have k1_3_0 := c1 (w.heap.size + 3) 0 (by first | (simp; done) | (simp; omega) | omega); have q1_3_0 := f1 (w.heap.size + 3) 0 (by first | (simp; done) | (simp; omega) | omega); have k1_3_1 := c1 (w.heap.size + 3) 1 (by first | (simp; done) | (simp; omega) | omega); have q1_3_1 := f1 (w.heap.size + 3) 1 (by first | (simp; done) | (simp; omega) | omega); have z1_0 : w.heap.size < v1.heap.size := (by (try simp at z1); omega); have z1_1 : w.heap.size + 1 < v1.heap.size := (by (try simp at z1); omega); have z1_2 : w.heap.size + 2 < v1.heap.size := (by (try simp at z1); omega); have z1_3 : w.heap.size + 3 < v1.heap.size := (by (try simp at z1); omega); (try simp at z1); clear c1 f1; simp [go_sem, *] at k1_0_0 q1_0_0 k1_0_1 q1_0_1 k1_1_0 q1_1_0 k1_1_1 q1_1_1 k1_2_0 q1_2_0 k1_3_0 q1_3_0 k1_3_1 q1_3_1
  go_wp2_with fail; refine (MN.out _ _ (by repeat (first | with_reducible exact Ext.refl _ | with_reducible apply Ext.drew | with_reducible apply Ext.drewN | with_reducible apply Ext.alloc | ((with_reducible refine Ext.setCell ?_ ?_ _); rotate_left; focus (first | (simp; done) | (simp; omega) | omega)) | with_reducible refine Ext.tr ?_ x1 | with_reducible refine Ext.tr ?_ x2 | with_reducible refine Ext.tr ?_ xa | with_reducible refine Ext.tr ?_ xb | with_reducible assumption)) (by simp [go_sem, *])).mono ?_; rintro e v2 ⟨V, E, rfl, x2, m1, m2⟩; obtain ⟨c2, f2⟩ := x2.rules; have z2 := x2.size; have k2_3_0 := c2 (w.heap.size + 3) 0 (by first | (simp; done) | (simp; omega) | omega); have q2_3_0 := f2 (w.heap.size + 3) 0 (by first | (simp; done) | (simp; omega) | omega); have k2_3_1 := c2 (w.heap.size + 3) 1 (by first | (simp; done) | (simp; omega) | omega); have q2_3_1 := f2 (w.heap.size + 3) 1 (by first | (simp; done) | (simp; omega) | omega); have z2_0 : w.heap.size < v2.heap.size := (by (try simp at z2); omega); have z2_1 : w.heap.size + 1 < v2.heap.size := (by (try simp at z2); omega); have z2_2 : w.heap.size + 2 < v2.heap.size := (by (try simp at z2); omega); have z2_3 : w.heap.size + 3 < v2.heap.size := (by (try simp at z2); omega); (try simp at z2); clear c2 f2; simp [go_sem, *] at k2_3_0 q2_3_0 k2_3_1 q2_3_1
  cases hg : gd X
  · obtain ⟨rfl, rfl⟩ := m2 hg
    have HG := Lib.hid hg
    clear m1 m2 hg
    go_wp2
    simp [bodyPost, results, Try.results23, go_sem, *]
    exact ⟨_, _, rfl, (by repeat (first | with_reducible exact Ext.refl _ | with_reducible apply Ext.drew | with_reducible apply Ext.drewN | with_reducible apply Ext.alloc | ((with_reducible refine Ext.setCell ?_ ?_ _); rotate_left; focus (first | (simp; done) | (simp; omega) | omega)) | with_reducible refine Ext.tr ?_ x1 | with_reducible refine Ext.tr ?_ x2 | with_reducible refine Ext.tr ?_ xa | with_reducible refine Ext.tr ?_ xb | with_reducible assumption)), fun h => absurd h (by rw [HG.out]; decide), fun _ => ⟨rfl, rfl⟩⟩
  · obtain ⟨rfl, gb, rfl, kb, lb⟩ := m1 hg
    have zb : w.heap.size + 1 + 1 + 1 < gb := by have := x1.size; (try simp at this); omega
    have HG := Lib.hid hg
    have KB := Lib.hid kb
    clear m1 m2 hg kb
    go_wp2
    simp [bodyPost, results, Try.results23, go_sem, *]
    exact ⟨_, _, rfl, (by repeat (first | with_reducible exact Ext.refl _ | with_reducible apply Ext.drew | with_reducible apply Ext.drewN | with_reducible apply Ext.alloc | ((with_reducible refine Ext.setCell ?_ ?_ _); rotate_left; focus (first | (simp; done) | (simp; omega) | omega)) | with_reducible refine Ext.tr ?_ x1 | with_reducible refine Ext.tr ?_ x2 | with_reducible refine Ext.tr ?_ xa | with_reducible refine Ext.tr ?_ xb | with_reducible assumption)), fun _ => ⟨rfl, gb, rfl, by rw [cell_set_far _ _ _ _ _ _ (by omega), cell_set_far _ _ _ _ _ _ (by omega)]; exact KB.out, by omega⟩, fun h => absurd h (by rw [HG.out]; decide)⟩
end Go.Proofs.Ytmbgaonnknaclaa
