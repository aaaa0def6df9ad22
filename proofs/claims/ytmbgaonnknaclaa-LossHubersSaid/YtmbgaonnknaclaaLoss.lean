/- Package loss: the mean of what pairs of words tell. -/
import Derived.Test.YtmbgaonnknaclaaTens
import Derived.Test.YtmbgaonnknaclaaNears
import Derived.Test.YtmbgaonnknaclaaMul
import Derived.Deep.DeepCutAuto
import Derived.Deep.LoopGhost
import Derived.Deep.RegionWith
namespace Go.Proofs.Ytmbgaonnknaclaa
open Go.RowKit
attribute [local go_sem ↓] Go.wp_at_zero Go.wp_at_succ
theorem W128.same {x y : Int} (h : W128 x) (k : x = y) : W128 y := k ▸ h
set_option maxHeartbeats 1000000 in
theorem wideAdd_any (x y : Int) (w : World) (hx : W128 x) (hy : W128 y) (hs : W128 (x + y)) :
    Calls Try.prog 100 #[.agg #[.int .i64 (hi x), .int .u64 (lo x)], .agg #[.int .i64 (hi y), .int .u64 (lo y)]] w fun e w' => e = .returned (.tuple #[.agg #[.int .i64 (hi (x + y)), .int .u64 (lo (x + y))], .int .i64 0]) ∧ Ext w w' := by
  have A := fun u => add64_0 (lo x) (lo y) (lo_nn x) (lo_nn y) u
  obtain ⟨x1, x2⟩ := hx.b
  obtain ⟨y1, y2⟩ := hy.b
  obtain ⟨s1, s2⟩ := hs.b
  have e1 : lo (lo x + lo y) = lo (x + y) := by unfold lo; omega
  have e2 : hi x + hi y + hi (lo x + lo y) = hi (x + y) := by unfold hi lo; omega
  have c1 : 0 ≤ hi (lo x + lo y) ∧ hi (lo x + lo y) ≤ 1 := by unfold hi lo; omega
  rw [e1] at A
  generalize hc : hi (lo x + lo y) = c at A e2 c1
  have g : (decide (hi x < 0) == decide (hi y < 0) && (decide (hi (x + y) < 0) != decide (hi x < 0))) = false := by
    rw [hi_neg, hi_neg, hi_neg]
    by_cases a : x < 0 <;> by_cases b : y < 0 <;> simp [a, b] <;> omega
  clear hx hy hs e1 hc
  generalize hi x = hx at *
  generalize hi y = hy at *
  generalize lo x = lx at *
  generalize lo y = ly at *
  generalize hi (x + y) = hz at *
  generalize lo (x + y) = lz at *
  obtain ⟨c0, c1⟩ := c1
  have w1 : IntKind.i64.wrap c = c := by rw [IntKind.wrap_i64]; omega
  have hz1 : hx + hy + c = hz := e2
  clear e2
  subst hz1
  have w2 : wrap64 (wrap64 (hx + hy) + c) = hx + hy + c := by unfold wrap64; omega
  obtain ⟨p, hp⟩ : ∃ p, decide (hx < 0) = p := ⟨_, rfl⟩
  obtain ⟨q, hq⟩ : ∃ p, decide (hy < 0) = p := ⟨_, rfl⟩
  obtain ⟨r, hr⟩ : ∃ p, decide (hx + hy + c < 0) = p := ⟨_, rfl⟩
  rw [hp, hq, hr] at g
  cases p <;> cases q <;> cases r <;> simp at g
  all_goals
    go_enter Try.func100, Try.ntmps100
    go_wp2
    simp [bodyPost, results, Try.results100, go_sem, *]
    exact (by repeat (first | with_reducible exact Ext.refl _ | with_reducible apply Ext.drew | with_reducible apply Ext.drewN | with_reducible apply Ext.alloc | ((with_reducible refine Ext.setCell ?_ ?_ _); rotate_left; focus (first | (simp; done) | (simp; omega) | omega)) | with_reducible refine Ext.tr ?_ x1 | with_reducible refine Ext.tr ?_ x2 | with_reducible refine Ext.tr ?_ hx | with_reducible assumption))
set_option maxHeartbeats 1000000 in
theorem wideSub_any (x y : Int) (w : World) (hx : W128 x) (hy : W128 y) (hs : W128 (x - y)) :
    Calls Try.prog 67 #[.agg #[.int .i64 (hi x), .int .u64 (lo x)], .agg #[.int .i64 (hi y), .int .u64 (lo y)]] w fun e w' => e = .returned (.tuple #[.agg #[.int .i64 (hi (x - y)), .int .u64 (lo (x - y))], .int .i64 0]) ∧ Ext w w' := by
  have A := fun u => sub64_0 (lo x) (lo y) (lo_nn x) (lo_nn y) (lo_lt y) (lo_lt x) u
  obtain ⟨x1, x2⟩ := hx.b
  obtain ⟨y1, y2⟩ := hy.b
  obtain ⟨s1, s2⟩ := hs.b
  have e1 : lo (lo x - lo y) = lo (x - y) := by unfold lo; omega
  have e2 : hi x - hi y - -hi (lo x - lo y) = hi (x - y) := by unfold hi lo; omega
  have c1 : 0 ≤ -hi (lo x - lo y) ∧ -hi (lo x - lo y) ≤ 1 := by unfold hi lo; omega
  rw [e1] at A
  generalize hc : -hi (lo x - lo y) = c at A e2 c1
  have g : ((decide (hi x < 0) != decide (hi y < 0)) && (decide (hi (x - y) < 0) != decide (hi x < 0))) = false := by
    rw [hi_neg, hi_neg, hi_neg]
    by_cases a : x < 0 <;> by_cases b : y < 0 <;> simp [a, b] <;> omega
  clear hx hy hs e1 hc
  generalize hi x = hx at *
  generalize hi y = hy at *
  generalize lo x = lx at *
  generalize lo y = ly at *
  generalize hi (x - y) = hz at *
  generalize lo (x - y) = lz at *
  obtain ⟨c0, c1⟩ := c1
  have w1 : IntKind.i64.wrap c = c := by rw [IntKind.wrap_i64]; omega
  have hz1 : hx - hy - c = hz := e2
  clear e2
  subst hz1
  have w2 : wrap64 (wrap64 (hx - hy) - c) = hx - hy - c := by unfold wrap64; omega
  obtain ⟨p, hp⟩ : ∃ p, decide (hx < 0) = p := ⟨_, rfl⟩
  obtain ⟨q, hq⟩ : ∃ p, decide (hy < 0) = p := ⟨_, rfl⟩
  obtain ⟨r, hr⟩ : ∃ p, decide (hx - hy - c < 0) = p := ⟨_, rfl⟩
  rw [hp, hq, hr] at g
  cases p <;> cases q <;> cases r <;> simp at g
  all_goals
    go_enter Try.func67, Try.ntmps67
    go_wp2
    simp [bodyPost, results, Try.results67, go_sem, *]
    exact (by repeat (first | with_reducible exact Ext.refl _ | with_reducible apply Ext.drew | with_reducible apply Ext.drewN | with_reducible apply Ext.alloc | ((with_reducible refine Ext.setCell ?_ ?_ _); rotate_left; focus (first | (simp; done) | (simp; omega) | omega)) | with_reducible refine Ext.tr ?_ x1 | with_reducible refine Ext.tr ?_ x2 | with_reducible refine Ext.tr ?_ hx | with_reducible assumption))
/-- What pairs of words tell together. -/
def smL (G : Int → Int) (xs ys : List Int) : Nat → Int
  | 0 => 0
  | k + 1 => smL G xs ys k + G (mag (xs.getD k 0 - ys.getD k 0))
def Tells (G : Int → Int) : Prop := ∀ u, 0 ≤ u → u < 281474976710656 → 0 ≤ G u ∧ G u ≤ 79228162514264337593543950336
theorem mag_diff {a b : Int} (ha : Wd a) (hb : Wd b) : 0 ≤ mag (a - b) ∧ mag (a - b) < 281474976710656 := by
  obtain ⟨a1, a2⟩ := ha
  obtain ⟨b1, b2⟩ := hb
  unfold mag; split <;> omega
theorem all_wd {ds : List Int} (h : ds.all gd = true) (i : Nat) (hi : i < ds.length) : Wd (ds.getD i 0) := gd_iff.1 (List.all_eq_true.1 h _ (getD_mem ds i hi))
theorem smL_bd {G : Int → Int} (hG : Tells G) {xs ys : List Int} (hx : xs.all gd = true) (hy : ys.all gd = true) (hl : xs.length = ys.length) : ∀ k, k ≤ xs.length → 0 ≤ smL G xs ys k ∧ smL G xs ys k ≤ k * 79228162514264337593543950336
  | 0, _ => by simp [smL]
  | k + 1, hk => by
    obtain ⟨h1, h2⟩ := smL_bd hG hx hy hl k (by omega)
    obtain ⟨m1, m2⟩ := mag_diff (all_wd hx k (by omega)) (all_wd hy k (by omega))
    obtain ⟨g1, g2⟩ := hG _ m1 m2
    simp only [smL]
    omega
end Go.Proofs.Ytmbgaonnknaclaa
