/- LossHubers: what the walk wants: plain law, small contracts. -/
import Derived.Test.YtmbgaonnknaclaaSquare
import Derived.Test.YtmbgaonnknaclaaAskLoss
namespace Go.Proofs.Ytmbgaonnknaclaa
open Go.RowKit
attribute [local go_sem ↓] Go.wp_at_zero Go.wp_at_succ
theorem smL_congr {G G' : Int → Int} {xs ys : List Int} : ∀ k, (∀ j, j < k → G (mag (xs.getD j 0 - ys.getD j 0)) = G' (mag (xs.getD j 0 - ys.getD j 0))) → smL G xs ys k = smL G' xs ys k
  | 0, _ => rfl
  | k + 1, h => by simp only [smL]; rw [smL_congr k (fun j hj => h j (by omega)), h k (by omega)]
theorem smL_le {G G' : Int → Int} {xs ys : List Int} (h : ∀ u, G u ≤ G' u) : ∀ k, smL G xs ys k ≤ smL G' xs ys k
  | 0 => Int.le_refl _
  | k + 1 => by simp only [smL]; have := smL_le (xs := xs) (ys := ys) h k; have := h (mag (xs.getD k 0 - ys.getD k 0)); omega
theorem half_near {a b S N : Int} (hN : 0 < N) (ha : IsNear a S N) (hb : IsNear b S (2 * N)) : 2 * b - a ≤ 1 ∧ -1 ≤ 2 * b - a := by
  obtain ⟨a1, a2, -⟩ := ha
  obtain ⟨b1, b2, -⟩ := hb
  have e : b * (2 * N) = 2 * b * N := by grind
  rw [e] at b1 b2
  constructor
  · rcases Int.lt_or_le 1 (2 * b - a) with h | h
    · have := Int.mul_le_mul_of_nonneg_right (show 2 ≤ 2 * b - a by omega) (Int.le_of_lt hN)
      rw [Int.sub_mul] at this
      omega
    · exact h
  · rcases Int.lt_or_le (2 * b - a) (-1) with h | h
    · have := Int.mul_le_mul_of_nonneg_right (show 2 * b - a ≤ -2 by omega) (Int.le_of_lt hN)
      rw [Int.sub_mul] at this
      omega
    · exact h
/-- Square, Huber by a bound above all, Huber by a lower one. -/
theorem huber_law {xs ys : List Int} {f FAR : Int} (gx : xs.all gd = true) (gy : ys.all gd = true) (hl : xs.length = ys.length) (h0 : 0 < xs.length) (F0 : 1 ≤ FAR)
    (hF : ∀ j, j < xs.length → mag (xs.getD j 0 - ys.getD j 0) ≤ FAR) (ga : gd (near (smL sqG xs ys xs.length) (1 * xs.length * p2 f)) = true) :
    gd (near (smL (hubG FAR) xs ys xs.length) (2 * xs.length * p2 f)) = true ∧ gd (near (smL (hubG (1 + FAR / 2)) xs ys xs.length) (2 * xs.length * p2 f)) = true ∧
    2 * near (smL (hubG FAR) xs ys xs.length) (2 * xs.length * p2 f) - near (smL sqG xs ys xs.length) (1 * xs.length * p2 f) ≤ 1 ∧
    -1 ≤ 2 * near (smL (hubG FAR) xs ys xs.length) (2 * xs.length * p2 f) - near (smL sqG xs ys xs.length) (1 * xs.length * p2 f) ∧
    near (smL (hubG (1 + FAR / 2)) xs ys xs.length) (2 * xs.length * p2 f) ≤ near (smL (hubG FAR) xs ys xs.length) (2 * xs.length * p2 f) := by
  have e : smL (hubG FAR) xs ys xs.length = smL sqG xs ys xs.length := smL_congr _ (fun j hj => if_pos (hF j hj))
  have l := smL_le (G := hubG (1 + FAR / 2)) (G' := sqG) (xs := xs) (ys := ys) (fun u => hub_le) xs.length
  have n1 := (smL_bd sq_tells gx gy hl xs.length (Nat.le_refl _)).1
  have n2 := (smL_bd (hub_tells (d := 1 + FAR / 2) (by omega)) gx gy hl xs.length (Nat.le_refl _)).1
  rw [e]
  generalize smL sqG xs ys xs.length = S at *
  generalize smL (hubG (1 + FAR / 2)) xs ys xs.length = T at *
  have hN : 0 < (xs.length : Int) * p2 f := Int.mul_pos (by omega) (p2_pos f)
  rw [show (2 : Int) * xs.length * p2 f = 2 * (xs.length * p2 f) by grind]
  rw [show (1 : Int) * xs.length * p2 f = xs.length * p2 f by grind] at ga ⊢
  generalize (xs.length : Int) * p2 f = N at *
  have hb := half_near hN (near_is S hN) (near_is S (show 0 < 2 * N by omega))
  have z0 : near 0 (2 * N) = 0 := by have := near_mul 0 (2 * N) (by omega); simpa using this
  have b0 := near_le (d := 2 * N) (by omega) n1
  have c0 := near_le (d := 2 * N) (by omega) n2
  have cb := near_le (d := 2 * N) (by omega) l
  rw [z0] at b0 c0
  obtain ⟨g1, g2⟩ := gd_iff.1 ga
  exact ⟨gd_t (by omega) (by omega), gd_t (by omega) (by omega), hb.1, hb.2, cb⟩
theorem num16_any (a : Int) (w : World) : Calls Try.prog 24 #[.int .i64 a] w fun e w' => e = .returned (.int .i64 a) ∧ w = w' := by
  go_enter Try.func24, Try.ntmps24
  go_wp2
  go_ret
  exact ⟨rfl, rfl⟩
/-- A mean's answer, whichever: the shape of it. -/
theorem meanRes.form {X : Int} {w : World} {e : Ending} {w' : World} (h : meanRes X w e w') : ∃ (a : Option Addr) (n c : Nat) (E : Int), e = .returned (.tuple #[.agg #[.slice none 0 0, .slice a n c], .int .i64 E]) ∧ Ext w w' := by
  obtain ⟨V, E, rfl, x, h1, h2⟩ := h
  cases hg : gd X
  · obtain ⟨rfl, rfl⟩ := h2 hg; exact ⟨_, _, _, _, rfl, x⟩
  · obtain ⟨rfl, g, rfl, -⟩ := h1 hg; exact ⟨_, _, _, _, rfl, x⟩
theorem meanRes.good {X : Int} {w : World} {e : Ending} {w' : World} (h : meanRes X w e w') (hg : gd X = true) : ∃ g : Nat, e = .returned (.tuple #[.agg #[.slice none 0 0, .slice (some ⟨g, 0, none⟩) 1 1], .int .i64 0]) ∧ Ext w w' ∧ w'.cell? ⟨g, 0, none⟩ = some (.int .i64 X) ∧ w.heap.size ≤ g := by
  obtain ⟨V, E, rfl, x, h1, h2⟩ := h
  obtain ⟨rfl, g, rfl, k, l⟩ := h1 hg
  exact ⟨g, rfl, x, k, l⟩
theorem meanRes.bad {X : Int} {w : World} {e : Ending} {w' : World} (h : meanRes X w e w') (hg : gd X = false) : e = .returned (.tuple #[.agg #[.slice none 0 0, .slice none 0 0], .int .i64 3]) ∧ Ext w w' := by
  obtain ⟨V, E, rfl, x, h1, h2⟩ := h
  obtain ⟨rfl, rfl⟩ := h2 hg
  exact ⟨rfl, x⟩
theorem heavyT_any {s d : Value} {xs ds : List Int} {m : Int} {w : World} (hs : Row .i64 w s xs) (hd : Row .i64 w d ds) :
    Calls Try.prog 26 #[.agg #[s, d], .int .i64 m] w fun e w' => e = .returned (.bool (decide (m < (ds.length : Int)) || decide (8 < (xs.length : Int)))) ∧ Ext w w' := by
  obtain ⟨a, ca, rfl, la⟩ := hs.form
  obtain ⟨b, cb, rfl, lb⟩ := hd.form
  clear hs hd
  by_cases h : m < (ds.length : Int)
  · go_enter Try.func26, Try.ntmps26
    go_wp2
    go_ret
    exact ⟨by simp [h], (by repeat (first | with_reducible exact Ext.refl _ | with_reducible apply Ext.drew | with_reducible apply Ext.drewN | with_reducible apply Ext.alloc | ((with_reducible refine Ext.setCell ?_ ?_ _); rotate_left; focus (first | (simp; done) | (simp; omega) | omega)) | with_reducible refine Ext.tr ?_ x1 | with_reducible refine Ext.tr ?_ x2 | with_reducible refine Ext.tr ?_ xa | with_reducible refine Ext.tr ?_ xb | with_reducible assumption))⟩
  · go_enter Try.func26, Try.ntmps26
    go_wp2
    go_ret
    exact ⟨by rw [show decide (m < (ds.length : Int)) = false by simp; omega]; rfl, (by repeat (first | with_reducible exact Ext.refl _ | with_reducible apply Ext.drew | with_reducible apply Ext.drewN | with_reducible apply Ext.alloc | ((with_reducible refine Ext.setCell ?_ ?_ _); rotate_left; focus (first | (simp; done) | (simp; omega) | omega)) | with_reducible refine Ext.tr ?_ x1 | with_reducible refine Ext.tr ?_ x2 | with_reducible refine Ext.tr ?_ xa | with_reducible refine Ext.tr ?_ xb | with_reducible assumption))⟩
set_option maxHeartbeats 1000000 in
theorem heavy16_any {sa da sb db lb : Value} {xa ya xb yb ls : List Int} {D F : Int} {w : World} (r0 : Row .i64 w sa xa) (r1 : Row .i64 w da ya) (r2 : Row .i64 w sb xb) (r3 : Row .i64 w db yb) (r4 : Row .i64 w lb ls) :
    Calls Try.prog 19 #[.agg #[sa, da, sb, db, lb, .int .i64 D, .int .i64 F]] w fun e w' => (∃ b, e = .returned (.bool b)) ∧ Ext w w' := by
  have H1 := Lib.hid (fun v (x : Ext w v) => heavyT_any (m := 24) (r0.ext x) (r1.ext x))
  have H2 := Lib.hid (fun v (x : Ext w v) => heavyT_any (m := 24) (r2.ext x) (r3.ext x))
  obtain ⟨a0, c0, rfl, -⟩ := r0.form
  obtain ⟨a1, c1, rfl, -⟩ := r1.form
  obtain ⟨a2, c2, rfl, -⟩ := r2.form
  obtain ⟨a3, c3, rfl, -⟩ := r3.form
  obtain ⟨a4, c4, rfl, l4⟩ := r4.form
  clear r0 r1 r2 r3 r4
  generalize (decide (24 < (ya.length : Int)) || decide (8 < (xa.length : Int))) = p at H1
  generalize (decide (24 < (yb.length : Int)) || decide (8 < (xb.length : Int))) = q at H2
  cases p
  · cases q
    · go_enter Try.func19, Try.ntmps19
      go_wp2_with fail; refine (H1.out _ (by repeat (first | with_reducible exact Ext.refl _ | with_reducible apply Ext.drew | with_reducible apply Ext.drewN | with_reducible apply Ext.alloc | ((with_reducible refine Ext.setCell ?_ ?_ _); rotate_left; focus (first | (simp; done) | (simp; omega) | omega)) | with_reducible refine Ext.tr ?_ x1 | with_reducible refine Ext.tr ?_ x2 | with_reducible refine Ext.tr ?_ xa | with_reducible refine Ext.tr ?_ xb | with_reducible assumption))).mono ?_; rintro e v1 ⟨rfl, x1⟩; obtain ⟨c1, f1⟩ := x1.rules; have z1 := x1.size; have k1_0_0 := c1 (w.heap.size) 0 (by first | (simp; done) | (simp; omega) | omega); have q1_0_0 := f1 (w.heap.size) 0 (by first | (simp; done) | (simp; omega) | omega); have k1_0_1 := c1 (w.heap.size) 1 (by first | (simp; done) | (simp; omega) | omega); have q1_0_1 := f1 (w.heap.size) 1 (by first | (simp; done) | (simp; omega) | omega); have k1_0_2 := c1 (w.heap.size) 2 (by first | (simp; done) | (simp; omega) | omega); have q1_0_2 := f1 (w.heap.size) 2 (by first | (simp; done) | (simp; omega) | omega); have k1_0_3 := c1 (w.heap.size) 3 (by first | (simp; done) | (simp; omega) | omega); have q1_0_3 := f1 (w.heap.size) 3 (by first | (simp; done) | (simp; omega) | omega); have k1_0_4 := c1 (w.heap.size) 4 (by first | (simp; done) | (simp; omega) | omega); have q1_0_4 := f1 (w.heap.size) 4 (by first | (simp; done) | (simp; omega) | omega); have k1_0_5 := c1 (w.heap.size) 5 (by first | (simp; done) | (simp; omega) | omega); have q1_0_5 := f1 (w.heap.size) 5 (by first | (simp; done) | (simp; omega) | omega); have k1_0_6 := c1 (w.heap.size) 6 (by first | (simp; done) | (simp; omega) | omega); have q1_0_6 := f1 (w.heap.size) 6 (by first | (simp; done) | (simp; omega) | omega); have z1_0 : w.heap.size < v1.heap.size := (by (try simp at z1); omega); (try simp at z1); clear c1 f1; simp [go_sem, *] at k1_0_0 q1_0_0 k1_0_1 q1_0_1 k1_0_2 q1_0_2 k1_0_3 q1_0_3 k1_0_4 q1_0_4 k1_0_5 q1_0_5 k1_0_6 q1_0_6
      go_wp2_with fail; refine (H2.out _ (by repeat (first | with_reducible exact Ext.refl _ | with_reducible apply Ext.drew | with_reducible apply Ext.drewN | with_reducible apply Ext.alloc | ((with_reducible refine Ext.setCell ?_ ?_ _); rotate_left; focus (first | (simp; done) | (simp; omega) | omega)) | with_reducible refine Ext.tr ?_ x1 | with_reducible refine Ext.tr ?_ x2 | with_reducible refine Ext.tr ?_ xa | with_reducible refine Ext.tr ?_ xb | with_reducible assumption))).mono ?_; rintro e v2 ⟨rfl, x2⟩; obtain ⟨c2, f2⟩ := x2.rules; have z2 := x2.size; have k2_0_0 := c2 (w.heap.size) 0 (by first | (simp; done) | (simp; omega) | omega); have q2_0_0 := f2 (w.heap.size) 0 (by first | (simp; done) | (simp; omega) | omega); have k2_0_1 := c2 (w.heap.size) 1 (by first | (simp; done) | (simp; omega) | omega); have q2_0_1 := f2 (w.heap.size) 1 (by first | (simp; done) | (simp; omega) | omega); have k2_0_2 := c2 (w.heap.size) 2 (by first | (simp; done) | (simp; omega) | omega); have q2_0_2 := f2 (w.heap.size) 2 (by first | (simp; done) | (simp; omega) | omega); have k2_0_3 := c2 (w.heap.size) 3 (by first | (simp; done) | (simp; omega) | omega); have q2_0_3 := f2 (w.heap.size) 3 (by first | (simp; done) | (simp; omega) | omega); have k2_0_4 := c2 (w.heap.size) 4 (by first | (simp; done) | (simp; omega) | omega); have q2_0_4 := f2 (w.heap.size) 4 (by first | (simp; done) | (simp; omega) | omega); have k2_0_5 := c2 (w.heap.size) 5 (by first | (simp; done) | (simp; omega) | omega); have q2_0_5 := f2 (w.heap.size) 5 (by first | (simp; done) | (simp; omega) | omega); have k2_0_6 := c2 (w.heap.size) 6 (by first | (simp; done) | (simp; omega) | omega); have q2_0_6 := f2 (w.heap.size) 6 (by first | (simp; done) | (simp; omega) | omega); have z2_0 : w.heap.size < v2.heap.size := (by (try simp at z2); omega); (try simp at z2); clear c2 f2; simp [go_sem, *] at k2_0_0 q2_0_0 k2_0_1 q2_0_1 k2_0_2 q2_0_2 k2_0_3 q2_0_3 k2_0_4 q2_0_4 k2_0_5 q2_0_5 k2_0_6 q2_0_6; (try clear k1_0_0); (try clear q1_0_0); (try clear k1_0_1); (try clear q1_0_1); (try clear k1_0_2); (try clear q1_0_2); (try clear k1_0_3); (try clear q1_0_3); (try clear k1_0_4); (try clear q1_0_4); (try clear k1_0_5); (try clear q1_0_5); (try clear k1_0_6); (try clear q1_0_6)
      go_wp2
      go_ret
      exact ⟨⟨_, rfl⟩, (by repeat (first | with_reducible exact Ext.refl _ | with_reducible apply Ext.drew | with_reducible apply Ext.drewN | with_reducible apply Ext.alloc | ((with_reducible refine Ext.setCell ?_ ?_ _); rotate_left; focus (first | (simp; done) | (simp; omega) | omega)) | with_reducible refine Ext.tr ?_ x1 | with_reducible refine Ext.tr ?_ x2 | with_reducible refine Ext.tr ?_ xa | with_reducible refine Ext.tr ?_ xb | with_reducible assumption))⟩
    · go_enter Try.func19, Try.ntmps19
      go_wp2_with fail; refine (H1.out _ (by repeat (first | with_reducible exact Ext.refl _ | with_reducible apply Ext.drew | with_reducible apply Ext.drewN | with_reducible apply Ext.alloc | ((with_reducible refine Ext.setCell ?_ ?_ _); rotate_left; focus (first | (simp; done) | (simp; omega) | omega)) | with_reducible refine Ext.tr ?_ x1 | with_reducible refine Ext.tr ?_ x2 | with_reducible refine Ext.tr ?_ xa | with_reducible refine Ext.tr ?_ xb | with_reducible assumption))).mono ?_; rintro e v1 ⟨rfl, x1⟩; obtain ⟨c1, f1⟩ := x1.rules; have z1 := x1.size; have k1_0_0 := c1 (w.heap.size) 0 (by first | (simp; done) | (simp; omega) | omega); have q1_0_0 := f1 (w.heap.size) 0 (by first | (simp; done) | (simp; omega) | omega); have k1_0_1 := c1 (w.heap.size) 1 (by first | (simp; done) | (simp; omega) | omega); have q1_0_1 := f1 (w.heap.size) 1 (by first | (simp; done) | (simp; omega) | omega); have k1_0_2 := c1 (w.heap.size) 2 (by first | (simp; done) | (simp; omega) | omega); have q1_0_2 := f1 (w.heap.size) 2 (by first | (simp; done) | (simp; omega) | omega); have k1_0_3 := c1 (w.heap.size) 3 (by first | (simp; done) | (simp; omega) | omega); have q1_0_3 := f1 (w.heap.size) 3 (by first | (simp; done) | (simp; omega) | omega); have k1_0_4 := c1 (w.heap.size) 4 (by first | (simp; done) | (simp; omega) | omega); have q1_0_4 := f1 (w.heap.size) 4 (by first | (simp; done) | (simp; omega) | omega); have k1_0_5 := c1 (w.heap.size) 5 (by first | (simp; done) | (simp; omega) | omega); have q1_0_5 := f1 (w.heap.size) 5 (by first | (simp; done) | (simp; omega) | omega); have k1_0_6 := c1 (w.heap.size) 6 (by first | (simp; done) | (simp; omega) | omega); have q1_0_6 := f1 (w.heap.size) 6 (by first | (simp; done) | (simp; omega) | omega); have z1_0 : w.heap.size < v1.heap.size := (by (try simp at z1); omega); (try simp at z1); clear c1 f1; simp [go_sem, *] at k1_0_0 q1_0_0 k1_0_1 q1_0_1 k1_0_2 q1_0_2 k1_0_3 q1_0_3 k1_0_4 q1_0_4 k1_0_5 q1_0_5 k1_0_6 q1_0_6
      go_wp2_with fail; refine (H2.out _ (by repeat (first | with_reducible exact Ext.refl _ | with_reducible apply Ext.drew | with_reducible apply Ext.drewN | with_reducible apply Ext.alloc | ((with_reducible refine Ext.setCell ?_ ?_ _); rotate_left; focus (first | (simp; done) | (simp; omega) | omega)) | with_reducible refine Ext.tr ?_ x1 | with_reducible refine Ext.tr ?_ x2 | with_reducible refine Ext.tr ?_ xa | with_reducible refine Ext.tr ?_ xb | with_reducible assumption))).mono ?_; rintro e v2 ⟨rfl, x2⟩; obtain ⟨c2, f2⟩ := x2.rules; have z2 := x2.size; have k2_0_0 := c2 (w.heap.size) 0 (by first | (simp; done) | (simp; omega) | omega); have q2_0_0 := f2 (w.heap.size) 0 (by first | (simp; done) | (simp; omega) | omega); have k2_0_1 := c2 (w.heap.size) 1 (by first | (simp; done) | (simp; omega) | omega); have q2_0_1 := f2 (w.heap.size) 1 (by first | (simp; done) | (simp; omega) | omega); have k2_0_2 := c2 (w.heap.size) 2 (by first | (simp; done) | (simp; omega) | omega); have q2_0_2 := f2 (w.heap.size) 2 (by first | (simp; done) | (simp; omega) | omega); have k2_0_3 := c2 (w.heap.size) 3 (by first | (simp; done) | (simp; omega) | omega); have q2_0_3 := f2 (w.heap.size) 3 (by first | (simp; done) | (simp; omega) | omega); have k2_0_4 := c2 (w.heap.size) 4 (by first | (simp; done) | (simp; omega) | omega); have q2_0_4 := f2 (w.heap.size) 4 (by first | (simp; done) | (simp; omega) | omega); have k2_0_5 := c2 (w.heap.size) 5 (by first | (simp; done) | (simp; omega) | omega); have q2_0_5 := f2 (w.heap.size) 5 (by first | (simp; done) | (simp; omega) | omega); have k2_0_6 := c2 (w.heap.size) 6 (by first | (simp; done) | (simp; omega) | omega); have q2_0_6 := f2 (w.heap.size) 6 (by first | (simp; done) | (simp; omega) | omega); have z2_0 : w.heap.size < v2.heap.size := (by (try simp at z2); omega); (try simp at z2); clear c2 f2; simp [go_sem, *] at k2_0_0 q2_0_0 k2_0_1 q2_0_1 k2_0_2 q2_0_2 k2_0_3 q2_0_3 k2_0_4 q2_0_4 k2_0_5 q2_0_5 k2_0_6 q2_0_6; (try clear k1_0_0); (try clear q1_0_0); (try clear k1_0_1); (try clear q1_0_1); (try clear k1_0_2); (try clear q1_0_2); (try clear k1_0_3); (try clear q1_0_3); (try clear k1_0_4); (try clear q1_0_4); (try clear k1_0_5); (try clear q1_0_5); (try clear k1_0_6); (try clear q1_0_6)
      go_wp2
      go_ret
      exact ⟨⟨_, rfl⟩, (by repeat (first | with_reducible exact Ext.refl _ | with_reducible apply Ext.drew | with_reducible apply Ext.drewN | with_reducible apply Ext.alloc | ((with_reducible refine Ext.setCell ?_ ?_ _); rotate_left; focus (first | (simp; done) | (simp; omega) | omega)) | with_reducible refine Ext.tr ?_ x1 | with_reducible refine Ext.tr ?_ x2 | with_reducible refine Ext.tr ?_ xa | with_reducible refine Ext.tr ?_ xb | with_reducible assumption))⟩
  · go_enter Try.func19, Try.ntmps19
    go_wp2_with fail; refine (H1.out _ (by repeat (first | with_reducible exact Ext.refl _ | with_reducible apply Ext.drew | with_reducible apply Ext.drewN | with_reducible apply Ext.alloc | ((with_reducible refine Ext.setCell ?_ ?_ _); rotate_left; focus (first | (simp; done) | (simp; omega) | omega)) | with_reducible refine Ext.tr ?_ x1 | with_reducible refine Ext.tr ?_ x2 | with_reducible refine Ext.tr ?_ xa | with_reducible refine Ext.tr ?_ xb | with_reducible assumption))).mono ?_; rintro e v1 ⟨rfl, x1⟩; obtain ⟨c1, f1⟩ := x1.rules; have z1 := x1.size; have k1_0_0 := c1 (w.heap.size) 0 (by first | (simp; done) | (simp; omega) | omega); have q1_0_0 := f1 (w.heap.size) 0 (by first | (simp; done) | (simp; omega) | omega); have k1_0_1 := c1 (w.heap.size) 1 (by first | (simp; done) | (simp; omega) | omega); have q1_0_1 := f1 (w.heap.size) 1 (by first | (simp; done) | (simp; omega) | omega); have k1_0_2 := c1 (w.heap.size) 2 (by first | (simp; done) | (simp; omega) | omega); have q1_0_2 := f1 (w.heap.size) 2 (by first | (simp; done) | (simp; omega) | omega); have k1_0_3 := c1 (w.heap.size) 3 (by first | (simp; done) | (simp; omega) | omega); have q1_0_3 := f1 (w.heap.size) 3 (by first | (simp; done) | (simp; omega) | omega); have k1_0_4 := c1 (w.heap.size) 4 (by first | (simp; done) | (simp; omega) | omega); have q1_0_4 := f1 (w.heap.size) 4 (by first | (simp; done) | (simp; omega) | omega); have k1_0_5 := c1 (w.heap.size) 5 (by first | (simp; done) | (simp; omega) | omega); have q1_0_5 := f1 (w.heap.size) 5 (by first | (simp; done) | (simp; omega) | omega); have k1_0_6 := c1 (w.heap.size) 6 (by first | (simp; done) | (simp; omega) | omega); have q1_0_6 := f1 (w.heap.size) 6 (by first | (simp; done) | (simp; omega) | omega); have z1_0 : w.heap.size < v1.heap.size := (by (try simp at z1); omega); (try simp at z1); clear c1 f1; simp [go_sem, *] at k1_0_0 q1_0_0 k1_0_1 q1_0_1 k1_0_2 q1_0_2 k1_0_3 q1_0_3 k1_0_4 q1_0_4 k1_0_5 q1_0_5 k1_0_6 q1_0_6
    go_wp2
    go_ret
    exact ⟨⟨_, rfl⟩, (by repeat (first | with_reducible exact Ext.refl _ | with_reducible apply Ext.drew | with_reducible apply Ext.drewN | with_reducible apply Ext.alloc | ((with_reducible refine Ext.setCell ?_ ?_ _); rotate_left; focus (first | (simp; done) | (simp; omega) | omega)) | with_reducible refine Ext.tr ?_ x1 | with_reducible refine Ext.tr ?_ x2 | with_reducible refine Ext.tr ?_ xa | with_reducible refine Ext.tr ?_ xb | with_reducible assumption))⟩
set_option maxHeartbeats 1000000 in
theorem wakes16 (w : World) : Calls Try.prog 25 #[] w fun e w' => e = .returned (.bool true) ∧ Ext w w' := by
  have S := Lib.hid (fun (g h : Nat) (v : World) (k1 : v.cell? ⟨g, 0, none⟩ = some (.int .i64 256)) (k2 : v.cell? ⟨h, 0, none⟩ = some (.int .i64 0)) =>
    (square_any (f := 8) (Row.nil .i64 v) (single_tensor k1) (Row.nil .i64 v) (single_tensor k2) (by decide) (by decide) (by decide)).mono (fun e v' r => meanRes.good r (by decide)))
  have Q := Lib.hid (fun (g h : Nat) (v : World) (k1 : v.cell? ⟨g, 0, none⟩ = some (.int .i64 256)) (k2 : v.cell? ⟨h, 0, none⟩ = some (.int .i64 256)) => eqWords_any (single_tensor k1) (single_tensor k2))
  have E : near (smL sqG [256] [0] ([256] : List Int).length) (1 * ([256] : List Int).length * p2 8) = 256 := by decide
  rw [E] at S
  go_enter Try.func25, Try.ntmps25
  go_wp2_with fail; refine (S.out _ _ _ (by simp [go_sem]) (by simp [go_sem])).mono ?_; rintro e v1 ⟨g, rfl, x1, k1, l1⟩; obtain ⟨c1, f1⟩ := x1.rules; have z1 := x1.size
  go_wp2_with (go_at_call 24; refine (num16_any _ _).mono ?_; rintro e w' ⟨rfl, rfl⟩)
  go_wp2_with fail
  refine (Q.out _ _ _ (Ext.cell (show Ext v1 _ from (by repeat (first | with_reducible exact Ext.refl _ | with_reducible apply Ext.drew | with_reducible apply Ext.drewN | with_reducible apply Ext.alloc | ((with_reducible refine Ext.setCell ?_ ?_ _); rotate_left; focus (first | (simp; done) | (simp; omega) | omega)) | with_reducible refine Ext.tr ?_ x1 | with_reducible refine Ext.tr ?_ x2 | with_reducible refine Ext.tr ?_ xa | with_reducible refine Ext.tr ?_ xb | with_reducible assumption))) k1) (by simp [go_sem])).mono ?_
  rintro e w' ⟨rfl, n2, rfl⟩
  go_wp2
  go_ret
  exact ⟨rfl, (by repeat (first | with_reducible exact Ext.refl _ | with_reducible apply Ext.drew | with_reducible apply Ext.drewN | with_reducible apply Ext.alloc | ((with_reducible refine Ext.setCell ?_ ?_ _); rotate_left; focus (first | (simp; done) | (simp; omega) | omega)) | with_reducible refine Ext.tr ?_ x1 | with_reducible refine Ext.tr ?_ x2 | with_reducible refine Ext.tr ?_ xa | with_reducible refine Ext.tr ?_ xb | with_reducible assumption))⟩
end Go.Proofs.Ytmbgaonnknaclaa
