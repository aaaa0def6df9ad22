/- NormMoves: the walk. -/
import Derived.Test.YtjmecongccjcgaaNMl3
import Derived.Test.YtjmecongccjcgaaCopyT
import Derived.Test.YtjmecongccjcgaaRef2
import Derived.Test.YtjmecongccjcgaaRTimes
import Derived.Deep.DeepCutAuto
import Derived.BigRegion
namespace Go.Proofs.Ytjmecongccjcgaa
open Go.RowKit
attribute [local go_sem ↓] Go.wp_at_zero Go.wp_at_succ
/-- Is the law asked anything? -/
def goodN (xs ds : List Int) (E W : Int) : Bool := tenB xs ds && decide (xs.length ≠ 0) && decide (0 < E) && gd E && gd W
theorem goodN_of {xs ds : List Int} {E W : Int} (h : goodN xs ds E W = true) : tenB xs ds = true ∧ 0 < xs.length ∧ 0 < E ∧ gd E = true ∧ gd W = true := by
  simp only [goodN, Bool.and_eq_true, decide_eq_true_eq] at h
  exact ⟨h.1.1.1.1, by have := h.1.1.1.2; omega, h.1.1.2, h.1.2, h.2⟩
theorem Row.offNew {k : IntKind} {w : World} {v : Value} {ds : List Int} {g : Nat} (h : Row k w v ds) (hg : w.heap.size ≤ g) : Off g v := by
  obtain ⟨a, cap, rfl, h1, h2, h3⟩ := h
  intro a' n c e h0
  cases e
  obtain ⟨b, o, e, hc⟩ := h3 (by intro e; subst e; simp at h0)
  cases e
  have := cell_lt (hc 0 h0)
  simp only at this ⊢
  omega
/-- What the law's round holds: its input, the rows normed, the rows moved and negated. -/
structure MovLoc (V : World) (pp pa pm pn g2 gm gn : Nat) (dp va sm sn : Value) (E W : Int) (xs zs ms ns : List Int) (rm rn : List Value) (cm cn : Nat) : Prop where
  p1 : V.cell? ⟨pp, 1, none⟩ = some dp
  p2 : V.cell? ⟨pp, 2, none⟩ = some (.int .i64 E)
  p3 : V.cell? ⟨pp, 3, none⟩ = some (.int .i64 W)
  a0 : V.cell? ⟨pa, 0, none⟩ = some va
  a1 : V.cell? ⟨pa, 1, none⟩ = some (.slice (some ⟨g2, 0, none⟩) zs.length zs.length)
  m0 : V.cell? ⟨pm, 0, none⟩ = some sm
  m1 : V.cell? ⟨pm, 1, none⟩ = some (.slice (some ⟨gm, 0, none⟩) zs.length cm)
  n0 : V.cell? ⟨pn, 0, none⟩ = some sn
  n1 : V.cell? ⟨pn, 1, none⟩ = some (.slice (some ⟨gn, 0, none⟩) zs.length cn)
  b2 : Blk V g2 2 (ints zs)
  em : Blk V gm 2 (tl ms rm)
  en : Blk V gn 2 (tl ns rn)
  ra : Row .i64 V va xs
  rsm : Row .i64 V sm xs
  rsn : Row .i64 V sn xs
/-- A block that the others do not lie in. -/
structure MovOff (g pp pa pm pn g2 h : Nat) (va sm sn : Value) : Prop where
  pp : pp ≠ g
  pa : pa ≠ g
  pm : pm ≠ g
  pn : pn ≠ g
  g2 : g2 ≠ g
  h : h ≠ g
  va : Off g va
  sm : Off g sm
  sn : Off g sn
theorem cell_far' {V : World} {g i b j : Nat} {u v : Value} (h : V.cell? ⟨b, j, none⟩ = some v) (hne : b ≠ g) : (V.setCell ⟨g, i, none⟩ u).cell? ⟨b, j, none⟩ = some v := by
  rw [cell_set_far _ _ _ _ _ _ (fun e => hne e.symm)]; exact h
section
variable {V V' : World} {pp pa pm pn g2 gm gn : Nat} {dp va sm sn : Value} {E W : Int} {xs zs ms ns : List Int} {rm rn : List Value} {cm cn : Nat}
theorem MovLoc.ext (h : MovLoc V pp pa pm pn g2 gm gn dp va sm sn E W xs zs ms ns rm rn cm cn) (x : Ext V V') : MovLoc V' pp pa pm pn g2 gm gn dp va sm sn E W xs zs ms ns rm rn cm cn :=
  ⟨x.cell h.p1, x.cell h.p2, x.cell h.p3, x.cell h.a0, x.cell h.a1, x.cell h.m0, x.cell h.m1, x.cell h.n0, x.cell h.n1, h.b2.ext x, h.em.ext x, h.en.ext x, h.ra.ext x, h.rsm.ext x, h.rsn.ext x⟩
theorem MovLoc.setm (h : MovLoc V pp pa pm pn g2 gm gn dp va sm sn E W xs zs ms ns rm rn cm cn) (o : MovOff gm pp pa pm pn g2 gn va sm sn) {i : Nat} (hi : i < ms.length) (z : Int) : MovLoc (V.setCell ⟨gm, i, none⟩ (.int .i64 z)) pp pa pm pn g2 gm gn dp va sm sn E W xs zs (ms.set i z) ns rm rn cm cn :=
  ⟨cell_far' h.p1 o.pp, cell_far' h.p2 o.pp, cell_far' h.p3 o.pp, cell_far' h.a0 o.pa, cell_far' h.a1 o.pa, cell_far' h.m0 o.pm, cell_far' h.m1 o.pm, cell_far' h.n0 o.pn, cell_far' h.n1 o.pn, h.b2.far (fun e => o.g2 e) _, by rw [← tl_set rm hi]; exact h.em.set_ i _, h.en.far (fun e => o.h e) _,
    ((GB.refl V gm).set i _).row h.ra o.va, ((GB.refl V gm).set i _).row h.rsm o.sm, ((GB.refl V gm).set i _).row h.rsn o.sn⟩
theorem MovLoc.setn (h : MovLoc V pp pa pm pn g2 gm gn dp va sm sn E W xs zs ms ns rm rn cm cn) (o : MovOff gn pp pa pm pn g2 gm va sm sn) {i : Nat} (hi : i < ns.length) (z : Int) : MovLoc (V.setCell ⟨gn, i, none⟩ (.int .i64 z)) pp pa pm pn g2 gm gn dp va sm sn E W xs zs ms (ns.set i z) rm rn cm cn :=
  ⟨cell_far' h.p1 o.pp, cell_far' h.p2 o.pp, cell_far' h.p3 o.pp, cell_far' h.a0 o.pa, cell_far' h.a1 o.pa, cell_far' h.m0 o.pm, cell_far' h.m1 o.pm, cell_far' h.n0 o.pn, cell_far' h.n1 o.pn, h.b2.far (fun e => o.g2 e) _, h.em.far (fun e => o.h e) _, by rw [← tl_set rn hi]; exact h.en.set_ i _,
    ((GB.refl V gn).set i _).row h.ra o.va, ((GB.refl V gn).set i _).row h.rsm o.sm, ((GB.refl V gn).set i _).row h.rsn o.sn⟩
end
set_option maxHeartbeats 100000000 in
set_option maxRecDepth 100000 in
theorem nmoves_walk (b o len cap : Nat) (w : World) (_hl : len ≤ 9223372036854775807) (hT : AsksN w b o len) :
    Calls Try.prog 4 #[.slice (some ⟨b, o, none⟩) len cap] w fun e w' => e = .returned (.bool true) ∧ Ext w w' := by
  have HT := Lib.hid hT
  clear hT
  go_enter Try.func4, Try.ntmps4
  go_wp2_with fail
  go_loopw [3] (fun i wr => ∃ k : Nat, k ≤ len ∧ i = .int .i64 k ∧ Ext w wr) (fun i _ => len - (intOf i).toNat)
  case atStart => exact ⟨0, Nat.zero_le _, rfl, Ext.refl _⟩
  case round =>
    obtain ⟨k, hk, rfl, hext⟩ := hrel
    obtain ⟨wo, rfl⟩ : ∃ wo : World, wo = wr := ⟨_, rfl⟩
    by_cases hlt : k < len ∧ k < 4
    · obtain ⟨h1, h2⟩ := hlt
      obtain ⟨s, d, xs, ds, E, W, F, t0, -, -, -, -, -⟩ := HT.out k h1
      obtain ⟨c0, c1, c2, c3, c4, r0, r1⟩ := t0.ext hext
      obtain ⟨f, gf, FC⟩ := F_some F
      have F1 := Lib.hid FC
      have HV := Lib.hid (fun v (x : Ext wo v) => heavyT_any (m := 24) (r0.ext x) (r1.ext x))
      have MA := Lib.hid (fun v (x : Ext wo v) => may8_any (r0.ext x) (r1.ext x))
      have R0 := Lib.hid r0
      have R1 := Lib.hid r1
      have GF := Lib.hid gf
      obtain ⟨a0, p0, rfl, -⟩ := r0.form
      obtain ⟨a1, p1, rfl, -⟩ := r1.form
      clear r0 r1 t0 FC gf
      by_cases hhv : 24 < (ds.length : Int) ∨ 8 < (xs.length : Int)
      · rw [show (decide (24 < (ds.length : Int)) || decide (8 < (xs.length : Int))) = true by simpa using hhv] at HV
        go_wp2_with fail; refine (HV.out _ (by repeat (first | with_reducible exact Ext.refl _ | with_reducible apply Ext.drew | with_reducible apply Ext.drewN | with_reducible apply Ext.alloc | ((with_reducible refine Ext.setCell ?_ ?_ _); rotate_left; focus (first | (simp; done) | (simp; omega) | omega)) | with_reducible refine Ext.tr ?_ x1 | with_reducible refine Ext.tr ?_ x2 | with_reducible refine Ext.tr ?_ x3 | with_reducible refine Ext.tr ?_ x4 | with_reducible refine Ext.tr ?_ x5 | with_reducible refine Ext.tr ?_ x6 | with_reducible refine Ext.tr ?_ x7 | with_reducible refine Ext.tr ?_ x8 | with_reducible refine Ext.tr ?_ hx | with_reducible refine Ext.tr ?_ hext | with_reducible assumption))).mono ?_; rintro e v1 ⟨rfl, x1⟩; obtain ⟨c1, f1⟩ := x1.rules; have z1 := x1.size; have k1_wo_heap_size_0 := c1 (wo.heap.size) 0 (by first | (simp; done) | (simp; omega) | omega); have q1_wo_heap_size_0 := f1 (wo.heap.size) 0 (by first | (simp; done) | (simp; omega) | omega); have k1_wo_heap_size_1 := c1 (wo.heap.size) 1 (by first | (simp; done) | (simp; omega) | omega); have q1_wo_heap_size_1 := f1 (wo.heap.size) 1 (by first | (simp; done) | (simp; omega) | omega); have k1_wo_heap_size_2 := c1 (wo.heap.size) 2 (by first | (simp; done) | (simp; omega) | omega); have q1_wo_heap_size_2 := f1 (wo.heap.size) 2 (by first | (simp; done) | (simp; omega) | omega); have k1_wo_heap_size_3 := c1 (wo.heap.size) 3 (by first | (simp; done) | (simp; omega) | omega); have q1_wo_heap_size_3 := f1 (wo.heap.size) 3 (by first | (simp; done) | (simp; omega) | omega); have k1_wo_heap_size_4 := c1 (wo.heap.size) 4 (by first | (simp; done) | (simp; omega) | omega); have q1_wo_heap_size_4 := f1 (wo.heap.size) 4 (by first | (simp; done) | (simp; omega) | omega); have z1_wo_heap_size : wo.heap.size < v1.heap.size := (by (try simp at z1); omega); (try simp at z1); clear c1 f1; simp [go_sem, *] at k1_wo_heap_size_0 q1_wo_heap_size_0 k1_wo_heap_size_1 q1_wo_heap_size_1 k1_wo_heap_size_2 q1_wo_heap_size_2 k1_wo_heap_size_3 q1_wo_heap_size_3 k1_wo_heap_size_4 q1_wo_heap_size_4
        go_wp2
        go_ret
        exact ⟨rfl, (by repeat (first | with_reducible exact Ext.refl _ | with_reducible apply Ext.drew | with_reducible apply Ext.drewN | with_reducible apply Ext.alloc | ((with_reducible refine Ext.setCell ?_ ?_ _); rotate_left; focus (first | (simp; done) | (simp; omega) | omega)) | with_reducible refine Ext.tr ?_ x1 | with_reducible refine Ext.tr ?_ x2 | with_reducible refine Ext.tr ?_ x3 | with_reducible refine Ext.tr ?_ x4 | with_reducible refine Ext.tr ?_ x5 | with_reducible refine Ext.tr ?_ x6 | with_reducible refine Ext.tr ?_ x7 | with_reducible refine Ext.tr ?_ x8 | with_reducible refine Ext.tr ?_ hx | with_reducible refine Ext.tr ?_ hext | with_reducible assumption))⟩
      rw [show (decide (24 < (ds.length : Int)) || decide (8 < (xs.length : Int))) = false by simpa using hhv] at HV
      have h24 : ds.length ≤ 24 := by omega
      have h8 : xs.length ≤ 8 := by omega
      clear hhv
      go_wp2_with fail; refine (HV.out _ (by repeat (first | with_reducible exact Ext.refl _ | with_reducible apply Ext.drew | with_reducible apply Ext.drewN | with_reducible apply Ext.alloc | ((with_reducible refine Ext.setCell ?_ ?_ _); rotate_left; focus (first | (simp; done) | (simp; omega) | omega)) | with_reducible refine Ext.tr ?_ x1 | with_reducible refine Ext.tr ?_ x2 | with_reducible refine Ext.tr ?_ x3 | with_reducible refine Ext.tr ?_ x4 | with_reducible refine Ext.tr ?_ x5 | with_reducible refine Ext.tr ?_ x6 | with_reducible refine Ext.tr ?_ x7 | with_reducible refine Ext.tr ?_ x8 | with_reducible refine Ext.tr ?_ hx | with_reducible refine Ext.tr ?_ hext | with_reducible assumption))).mono ?_; rintro e v1 ⟨rfl, x1⟩; obtain ⟨c1, f1⟩ := x1.rules; have z1 := x1.size; have k1_wo_heap_size_0 := c1 (wo.heap.size) 0 (by first | (simp; done) | (simp; omega) | omega); have q1_wo_heap_size_0 := f1 (wo.heap.size) 0 (by first | (simp; done) | (simp; omega) | omega); have k1_wo_heap_size_1 := c1 (wo.heap.size) 1 (by first | (simp; done) | (simp; omega) | omega); have q1_wo_heap_size_1 := f1 (wo.heap.size) 1 (by first | (simp; done) | (simp; omega) | omega); have k1_wo_heap_size_2 := c1 (wo.heap.size) 2 (by first | (simp; done) | (simp; omega) | omega); have q1_wo_heap_size_2 := f1 (wo.heap.size) 2 (by first | (simp; done) | (simp; omega) | omega); have k1_wo_heap_size_3 := c1 (wo.heap.size) 3 (by first | (simp; done) | (simp; omega) | omega); have q1_wo_heap_size_3 := f1 (wo.heap.size) 3 (by first | (simp; done) | (simp; omega) | omega); have k1_wo_heap_size_4 := c1 (wo.heap.size) 4 (by first | (simp; done) | (simp; omega) | omega); have q1_wo_heap_size_4 := f1 (wo.heap.size) 4 (by first | (simp; done) | (simp; omega) | omega); have z1_wo_heap_size : wo.heap.size < v1.heap.size := (by (try simp at z1); omega); (try simp at z1); clear c1 f1; simp [go_sem, *] at k1_wo_heap_size_0 q1_wo_heap_size_0 k1_wo_heap_size_1 q1_wo_heap_size_1 k1_wo_heap_size_2 q1_wo_heap_size_2 k1_wo_heap_size_3 q1_wo_heap_size_3 k1_wo_heap_size_4 q1_wo_heap_size_4
      clear HV
      go_upto_region 7 with (fail)
      go_cut [69] (fun s69 wx => s69 = .bool (!goodN xs ds E W) ∧ wx.cell? ⟨wo.heap.size, 0, none⟩ = some (.slice a0 xs.length p0) ∧ wx.cell? ⟨wo.heap.size, 1, none⟩ = some (.slice a1 ds.length p1) ∧ wx.cell? ⟨wo.heap.size, 2, none⟩ = some (.int .i64 E) ∧ wx.cell? ⟨wo.heap.size, 3, none⟩ = some (.int .i64 W) ∧ wx.cell? ⟨wo.heap.size, 4, none⟩ = some (.int .i64 F) ∧ wo.heap.size < wx.heap.size ∧ Ext wo wx)
      case first => as_aux_lemma =>
        cases hA : tenB xs ds
        · have GN := Lib.hid (show (!goodN xs ds E W) = true by simp [goodN, hA])
          rw [hA] at MA
          clear hA
          go_wp2_with fail
          refine (MA.out _ (by repeat (first | with_reducible exact Ext.refl _ | with_reducible apply Ext.drew | with_reducible apply Ext.drewN | with_reducible apply Ext.alloc | ((with_reducible refine Ext.setCell ?_ ?_ _); rotate_left; focus (first | (simp; done) | (simp; omega) | omega)) | with_reducible refine Ext.tr ?_ x1 | with_reducible refine Ext.tr ?_ x2 | with_reducible refine Ext.tr ?_ x3 | with_reducible refine Ext.tr ?_ x4 | with_reducible refine Ext.tr ?_ x5 | with_reducible refine Ext.tr ?_ x6 | with_reducible refine Ext.tr ?_ x7 | with_reducible refine Ext.tr ?_ x8 | with_reducible refine Ext.tr ?_ hx | with_reducible refine Ext.tr ?_ hext | with_reducible assumption))).mono ?_; rintro e v2 ⟨rfl, x2⟩; obtain ⟨c2, f2⟩ := x2.rules; have z2 := x2.size; have k2_wo_heap_size_0 := c2 (wo.heap.size) 0 (by first | (simp; done) | (simp; omega) | omega); have q2_wo_heap_size_0 := f2 (wo.heap.size) 0 (by first | (simp; done) | (simp; omega) | omega); have k2_wo_heap_size_1 := c2 (wo.heap.size) 1 (by first | (simp; done) | (simp; omega) | omega); have q2_wo_heap_size_1 := f2 (wo.heap.size) 1 (by first | (simp; done) | (simp; omega) | omega); have k2_wo_heap_size_2 := c2 (wo.heap.size) 2 (by first | (simp; done) | (simp; omega) | omega); have q2_wo_heap_size_2 := f2 (wo.heap.size) 2 (by first | (simp; done) | (simp; omega) | omega); have k2_wo_heap_size_3 := c2 (wo.heap.size) 3 (by first | (simp; done) | (simp; omega) | omega); have q2_wo_heap_size_3 := f2 (wo.heap.size) 3 (by first | (simp; done) | (simp; omega) | omega); have k2_wo_heap_size_4 := c2 (wo.heap.size) 4 (by first | (simp; done) | (simp; omega) | omega); have q2_wo_heap_size_4 := f2 (wo.heap.size) 4 (by first | (simp; done) | (simp; omega) | omega); have z2_wo_heap_size : wo.heap.size < v2.heap.size := (by (try simp at z2); omega); (try simp at z2); clear c2 f2; simp [go_sem, *] at k2_wo_heap_size_0 q2_wo_heap_size_0 k2_wo_heap_size_1 q2_wo_heap_size_1 k2_wo_heap_size_2 q2_wo_heap_size_2 k2_wo_heap_size_3 q2_wo_heap_size_3 k2_wo_heap_size_4 q2_wo_heap_size_4
          go_wp2_with fail
          go_meet
          exact ⟨by rw [GN.out]; first | done | (simp; done) | (simp; omega), by simp [go_sem, *], by simp [go_sem, *], by simp [go_sem, *], by simp [go_sem, *], by simp [go_sem, *], by first | (simp; done) | omega, (by repeat (first | with_reducible exact Ext.refl _ | with_reducible apply Ext.drew | with_reducible apply Ext.drewN | with_reducible apply Ext.alloc | ((with_reducible refine Ext.setCell ?_ ?_ _); rotate_left; focus (first | (simp; done) | (simp; omega) | omega)) | with_reducible refine Ext.tr ?_ x1 | with_reducible refine Ext.tr ?_ x2 | with_reducible refine Ext.tr ?_ x3 | with_reducible refine Ext.tr ?_ x4 | with_reducible refine Ext.tr ?_ x5 | with_reducible refine Ext.tr ?_ x6 | with_reducible refine Ext.tr ?_ x7 | with_reducible refine Ext.tr ?_ x8 | with_reducible refine Ext.tr ?_ hx | with_reducible refine Ext.tr ?_ hext | with_reducible assumption))⟩
        rw [hA] at MA
        go_wp2_with fail
        refine (MA.out _ (by repeat (first | with_reducible exact Ext.refl _ | with_reducible apply Ext.drew | with_reducible apply Ext.drewN | with_reducible apply Ext.alloc | ((with_reducible refine Ext.setCell ?_ ?_ _); rotate_left; focus (first | (simp; done) | (simp; omega) | omega)) | with_reducible refine Ext.tr ?_ x1 | with_reducible refine Ext.tr ?_ x2 | with_reducible refine Ext.tr ?_ x3 | with_reducible refine Ext.tr ?_ x4 | with_reducible refine Ext.tr ?_ x5 | with_reducible refine Ext.tr ?_ x6 | with_reducible refine Ext.tr ?_ x7 | with_reducible refine Ext.tr ?_ x8 | with_reducible refine Ext.tr ?_ hx | with_reducible refine Ext.tr ?_ hext | with_reducible assumption))).mono ?_; rintro e v2 ⟨rfl, x2⟩; obtain ⟨c2, f2⟩ := x2.rules; have z2 := x2.size; have k2_wo_heap_size_0 := c2 (wo.heap.size) 0 (by first | (simp; done) | (simp; omega) | omega); have q2_wo_heap_size_0 := f2 (wo.heap.size) 0 (by first | (simp; done) | (simp; omega) | omega); have k2_wo_heap_size_1 := c2 (wo.heap.size) 1 (by first | (simp; done) | (simp; omega) | omega); have q2_wo_heap_size_1 := f2 (wo.heap.size) 1 (by first | (simp; done) | (simp; omega) | omega); have k2_wo_heap_size_2 := c2 (wo.heap.size) 2 (by first | (simp; done) | (simp; omega) | omega); have q2_wo_heap_size_2 := f2 (wo.heap.size) 2 (by first | (simp; done) | (simp; omega) | omega); have k2_wo_heap_size_3 := c2 (wo.heap.size) 3 (by first | (simp; done) | (simp; omega) | omega); have q2_wo_heap_size_3 := f2 (wo.heap.size) 3 (by first | (simp; done) | (simp; omega) | omega); have k2_wo_heap_size_4 := c2 (wo.heap.size) 4 (by first | (simp; done) | (simp; omega) | omega); have q2_wo_heap_size_4 := f2 (wo.heap.size) 4 (by first | (simp; done) | (simp; omega) | omega); have z2_wo_heap_size : wo.heap.size < v2.heap.size := (by (try simp at z2); omega); (try simp at z2); clear c2 f2; simp [go_sem, *] at k2_wo_heap_size_0 q2_wo_heap_size_0 k2_wo_heap_size_1 q2_wo_heap_size_1 k2_wo_heap_size_2 q2_wo_heap_size_2 k2_wo_heap_size_3 q2_wo_heap_size_3 k2_wo_heap_size_4 q2_wo_heap_size_4
        by_cases hx0 : xs.length = 0
        · have GN := Lib.hid (show (!goodN xs ds E W) = true by simp [goodN, hx0])
          have hxb : ((xs.length : Int) == 0) = true := by simp [hx0]
          clear hx0 hA
          go_wp2_with fail
          go_meet
          exact ⟨by rw [GN.out]; first | done | (simp; done) | (simp; omega), by simp [go_sem, *], by simp [go_sem, *], by simp [go_sem, *], by simp [go_sem, *], by simp [go_sem, *], by first | (simp; done) | omega, (by repeat (first | with_reducible exact Ext.refl _ | with_reducible apply Ext.drew | with_reducible apply Ext.drewN | with_reducible apply Ext.alloc | ((with_reducible refine Ext.setCell ?_ ?_ _); rotate_left; focus (first | (simp; done) | (simp; omega) | omega)) | with_reducible refine Ext.tr ?_ x1 | with_reducible refine Ext.tr ?_ x2 | with_reducible refine Ext.tr ?_ x3 | with_reducible refine Ext.tr ?_ x4 | with_reducible refine Ext.tr ?_ x5 | with_reducible refine Ext.tr ?_ x6 | with_reducible refine Ext.tr ?_ x7 | with_reducible refine Ext.tr ?_ x8 | with_reducible refine Ext.tr ?_ hx | with_reducible refine Ext.tr ?_ hext | with_reducible assumption))⟩
        have hxb : ((xs.length : Int) == 0) = false := by rw [beq_eq_false_iff_ne]; omega
        by_cases hE : E ≤ 0
        · have nE : ¬ (0 : Int) < E := by omega
          have GN := Lib.hid (show (!goodN xs ds E W) = true by simp [goodN, nE])
          clear nE
          clear hx0 hA
          go_wp2_with fail
          go_meet
          exact ⟨by rw [GN.out]; first | done | (simp; done) | (simp; omega), by simp [go_sem, *], by simp [go_sem, *], by simp [go_sem, *], by simp [go_sem, *], by simp [go_sem, *], by first | (simp; done) | omega, (by repeat (first | with_reducible exact Ext.refl _ | with_reducible apply Ext.drew | with_reducible apply Ext.drewN | with_reducible apply Ext.alloc | ((with_reducible refine Ext.setCell ?_ ?_ _); rotate_left; focus (first | (simp; done) | (simp; omega) | omega)) | with_reducible refine Ext.tr ?_ x1 | with_reducible refine Ext.tr ?_ x2 | with_reducible refine Ext.tr ?_ x3 | with_reducible refine Ext.tr ?_ x4 | with_reducible refine Ext.tr ?_ x5 | with_reducible refine Ext.tr ?_ x6 | with_reducible refine Ext.tr ?_ x7 | with_reducible refine Ext.tr ?_ x8 | with_reducible refine Ext.tr ?_ hx | with_reducible refine Ext.tr ?_ hext | with_reducible assumption))⟩
        have hE0 : 0 < E := by omega
        have M2 := Lib.hid (fun u => may2_any E u)
        cases hG : gd E
        · have GN := Lib.hid (show (!goodN xs ds E W) = true by simp [goodN, hG])
          rw [hG] at M2
          clear hx0 hA hG
          go_wp2_with fail; refine (M2.out _).mono ?_; rintro e w' ⟨rfl, rfl⟩
          go_wp2_with fail
          go_meet
          exact ⟨by rw [GN.out]; first | done | (simp; done) | (simp; omega), by simp [go_sem, *], by simp [go_sem, *], by simp [go_sem, *], by simp [go_sem, *], by simp [go_sem, *], by first | (simp; done) | omega, (by repeat (first | with_reducible exact Ext.refl _ | with_reducible apply Ext.drew | with_reducible apply Ext.drewN | with_reducible apply Ext.alloc | ((with_reducible refine Ext.setCell ?_ ?_ _); rotate_left; focus (first | (simp; done) | (simp; omega) | omega)) | with_reducible refine Ext.tr ?_ x1 | with_reducible refine Ext.tr ?_ x2 | with_reducible refine Ext.tr ?_ x3 | with_reducible refine Ext.tr ?_ x4 | with_reducible refine Ext.tr ?_ x5 | with_reducible refine Ext.tr ?_ x6 | with_reducible refine Ext.tr ?_ x7 | with_reducible refine Ext.tr ?_ x8 | with_reducible refine Ext.tr ?_ hx | with_reducible refine Ext.tr ?_ hext | with_reducible assumption))⟩
        have M3 := Lib.hid (fun u => may2_any W u)
        rw [hG] at M2
        cases hGW : gd W
        · have GN := Lib.hid (show (!goodN xs ds E W) = true by simp [goodN, hGW])
          rw [hGW] at M3
          clear hx0 hA hG hGW
          go_wp2_with fail; refine (M2.out _).mono ?_; rintro e w' ⟨rfl, rfl⟩
          go_wp2_with fail; refine (M3.out _).mono ?_; rintro e w' ⟨rfl, rfl⟩
          go_wp2_with fail
          go_meet
          exact ⟨by rw [GN.out]; first | done | (simp; done) | (simp; omega), by simp [go_sem, *], by simp [go_sem, *], by simp [go_sem, *], by simp [go_sem, *], by simp [go_sem, *], by first | (simp; done) | omega, (by repeat (first | with_reducible exact Ext.refl _ | with_reducible apply Ext.drew | with_reducible apply Ext.drewN | with_reducible apply Ext.alloc | ((with_reducible refine Ext.setCell ?_ ?_ _); rotate_left; focus (first | (simp; done) | (simp; omega) | omega)) | with_reducible refine Ext.tr ?_ x1 | with_reducible refine Ext.tr ?_ x2 | with_reducible refine Ext.tr ?_ x3 | with_reducible refine Ext.tr ?_ x4 | with_reducible refine Ext.tr ?_ x5 | with_reducible refine Ext.tr ?_ x6 | with_reducible refine Ext.tr ?_ x7 | with_reducible refine Ext.tr ?_ x8 | with_reducible refine Ext.tr ?_ hx | with_reducible refine Ext.tr ?_ hext | with_reducible assumption))⟩
        · have GN := Lib.hid (show (!goodN xs ds E W) = false by simp [goodN, hA, hx0, hE0, hG, hGW])
          rw [hGW] at M3
          clear hx0 hA hG hGW
          go_wp2_with fail; refine (M2.out _).mono ?_; rintro e w' ⟨rfl, rfl⟩
          go_wp2_with fail; refine (M3.out _).mono ?_; rintro e w' ⟨rfl, rfl⟩
          go_wp2_with fail
          go_meet
          exact ⟨by rw [GN.out]; first | done | (simp; done) | (simp; omega), by simp [go_sem, *], by simp [go_sem, *], by simp [go_sem, *], by simp [go_sem, *], by simp [go_sem, *], by first | (simp; done) | omega, (by repeat (first | with_reducible exact Ext.refl _ | with_reducible apply Ext.drew | with_reducible apply Ext.drewN | with_reducible apply Ext.alloc | ((with_reducible refine Ext.setCell ?_ ?_ _); rotate_left; focus (first | (simp; done) | (simp; omega) | omega)) | with_reducible refine Ext.tr ?_ x1 | with_reducible refine Ext.tr ?_ x2 | with_reducible refine Ext.tr ?_ x3 | with_reducible refine Ext.tr ?_ x4 | with_reducible refine Ext.tr ?_ x5 | with_reducible refine Ext.tr ?_ x6 | with_reducible refine Ext.tr ?_ x7 | with_reducible refine Ext.tr ?_ x8 | with_reducible refine Ext.tr ?_ hx | with_reducible refine Ext.tr ?_ hext | with_reducible assumption))⟩
      case rest => as_aux_lemma =>
        clear MA x1 c0 c1 c2 c3 c4 z1 z1_wo_heap_size
        obtain ⟨rfl, t0, t1, t2, t3, t4, z0, hx⟩ := hcut
        cases hgood : goodN xs ds E W
        · rw [Bool.not_false]
          clear hgood
          go_wp2_with fail
          go_roundw
          case rel => exact ⟨k + 1, by omega, by go_num, hext.tr hx⟩
          case measure => simp [intOf]; omega
        rw [Bool.not_true]
        obtain ⟨hA, hx0, hE0, hG, hGW⟩ := goodN_of hgood
        clear hgood
        obtain ⟨n, hn⟩ := last_nat' hA hx0
        obtain ⟨m, hm, hm0, n0⟩ := rows_of hA hx0 hn
        have R13 := Lib.hid (fun v (x : Ext wo v) => rows13_any (R0.out.ext x) (R1.out.ext x) hx0 (by omega) n hn)
        have NM := Lib.hid (fun v (x : Ext wo v) => nNorm_ok (eps := E) (f := f) (R0.out.ext x) (R1.out.ext x) hA hG hE0 GF.out hx0 h24 n hn)
        have HN0 := Lib.hid hn
        have HG := Lib.hid hG
        have HM := Lib.hid hm
        have HA := Lib.hid hA
        have HGW := Lib.hid hGW
        clear hm hn hG hA hGW
        go_wp2_with fail
        refine (F1.out _).mono ?_
        rintro e w' ⟨rfl, rfl⟩
        clear F1
        go_wp2_with fail
        refine (R13.out _ (by repeat (first | with_reducible exact Ext.refl _ | with_reducible apply Ext.drew | with_reducible apply Ext.drewN | with_reducible apply Ext.alloc | ((with_reducible refine Ext.setCell ?_ ?_ _); rotate_left; focus (first | (simp; done) | (simp; omega) | omega)) | with_reducible refine Ext.tr ?_ x1 | with_reducible refine Ext.tr ?_ x2 | with_reducible refine Ext.tr ?_ x3 | with_reducible refine Ext.tr ?_ x4 | with_reducible refine Ext.tr ?_ x5 | with_reducible refine Ext.tr ?_ x6 | with_reducible refine Ext.tr ?_ x7 | with_reducible refine Ext.tr ?_ x8 | with_reducible refine Ext.tr ?_ hx | with_reducible refine Ext.tr ?_ hext | with_reducible assumption))).mono ?_; rintro e v3 ⟨rfl, x3⟩; obtain ⟨c3, f3⟩ := x3.rules; have z3 := x3.size; have k3_wo_heap_size_0 := c3 (wo.heap.size) 0 (by first | (simp; done) | (simp; omega) | omega); have q3_wo_heap_size_0 := f3 (wo.heap.size) 0 (by first | (simp; done) | (simp; omega) | omega); have k3_wo_heap_size_1 := c3 (wo.heap.size) 1 (by first | (simp; done) | (simp; omega) | omega); have q3_wo_heap_size_1 := f3 (wo.heap.size) 1 (by first | (simp; done) | (simp; omega) | omega); have k3_wo_heap_size_2 := c3 (wo.heap.size) 2 (by first | (simp; done) | (simp; omega) | omega); have q3_wo_heap_size_2 := f3 (wo.heap.size) 2 (by first | (simp; done) | (simp; omega) | omega); have k3_wo_heap_size_3 := c3 (wo.heap.size) 3 (by first | (simp; done) | (simp; omega) | omega); have q3_wo_heap_size_3 := f3 (wo.heap.size) 3 (by first | (simp; done) | (simp; omega) | omega); have k3_wo_heap_size_4 := c3 (wo.heap.size) 4 (by first | (simp; done) | (simp; omega) | omega); have q3_wo_heap_size_4 := f3 (wo.heap.size) 4 (by first | (simp; done) | (simp; omega) | omega); have z3_wo_heap_size : wo.heap.size < v3.heap.size := (by (try simp at z3); omega); (try simp at z3); clear c3 f3; simp [go_sem, *] at k3_wo_heap_size_0 q3_wo_heap_size_0 k3_wo_heap_size_1 q3_wo_heap_size_1 k3_wo_heap_size_2 q3_wo_heap_size_2 k3_wo_heap_size_3 q3_wo_heap_size_3 k3_wo_heap_size_4 q3_wo_heap_size_4
        go_wp2_with fail; refine (NM.out _ (by repeat (first | with_reducible exact Ext.refl _ | with_reducible apply Ext.drew | with_reducible apply Ext.drewN | with_reducible apply Ext.alloc | ((with_reducible refine Ext.setCell ?_ ?_ _); rotate_left; focus (first | (simp; done) | (simp; omega) | omega)) | with_reducible refine Ext.tr ?_ x1 | with_reducible refine Ext.tr ?_ x2 | with_reducible refine Ext.tr ?_ x3 | with_reducible refine Ext.tr ?_ x4 | with_reducible refine Ext.tr ?_ x5 | with_reducible refine Ext.tr ?_ x6 | with_reducible refine Ext.tr ?_ x7 | with_reducible refine Ext.tr ?_ x8 | with_reducible refine Ext.tr ?_ hx | with_reducible refine Ext.tr ?_ hext | with_reducible assumption))).mono ?_; rintro e v4 ⟨nv, rfl, x4, nr⟩; obtain ⟨c4, f4⟩ := x4.rules; have z4 := x4.size; have k4_wo_heap_size_0 := c4 (wo.heap.size) 0 (by first | (simp; done) | (simp; omega) | omega); have q4_wo_heap_size_0 := f4 (wo.heap.size) 0 (by first | (simp; done) | (simp; omega) | omega); have k4_wo_heap_size_1 := c4 (wo.heap.size) 1 (by first | (simp; done) | (simp; omega) | omega); have q4_wo_heap_size_1 := f4 (wo.heap.size) 1 (by first | (simp; done) | (simp; omega) | omega); have k4_wo_heap_size_2 := c4 (wo.heap.size) 2 (by first | (simp; done) | (simp; omega) | omega); have q4_wo_heap_size_2 := f4 (wo.heap.size) 2 (by first | (simp; done) | (simp; omega) | omega); have k4_wo_heap_size_3 := c4 (wo.heap.size) 3 (by first | (simp; done) | (simp; omega) | omega); have q4_wo_heap_size_3 := f4 (wo.heap.size) 3 (by first | (simp; done) | (simp; omega) | omega); have k4_wo_heap_size_4 := c4 (wo.heap.size) 4 (by first | (simp; done) | (simp; omega) | omega); have q4_wo_heap_size_4 := f4 (wo.heap.size) 4 (by first | (simp; done) | (simp; omega) | omega); have z4_wo_heap_size : wo.heap.size < v4.heap.size := (by (try simp at z4); omega); (try simp at z4); clear c4 f4; simp [go_sem, *] at k4_wo_heap_size_0 q4_wo_heap_size_0 k4_wo_heap_size_1 q4_wo_heap_size_1 k4_wo_heap_size_2 q4_wo_heap_size_2 k4_wo_heap_size_3 q4_wo_heap_size_3 k4_wo_heap_size_4 q4_wo_heap_size_4
        obtain ⟨g1, q1, cur, g2, zs, rfl, hb1, hc1, hc2, hc3, hc4, hb2, hg1, hg2, hzl, hN⟩ := nr.is
        have RX := Lib.hid (Row.of_owns (own_of_cur (base := 0) hb1 hc1 hc2 hc3 hc4 (Nat.zero_le _))).1
        have B2 := Lib.hid hb2
        have ZL := Lib.hid hzl
        have HN := Lib.hid hN
        clear nr hb2 hzl hN NM R13 hb1 hc1 hc2 hc3 hc4 hg1 hg2
        go_upto_region 11 with (fail)
        obtain ⟨V, hV⟩ : ∃ V : World, v4.alloc (.cells #[.slice (some ⟨g1, 0, none⟩) xs.length q1, .slice (some ⟨g2, 0, none⟩) ds.length ds.length] 26) = V := ⟨_, rfl⟩
        have kp0 : V.cell? ⟨wo.heap.size, 0, none⟩ = some (.slice a0 xs.length p0) := by rw [← hV]; exact Lib.cell?_alloc_some _ k4_wo_heap_size_0
        have kp1 : V.cell? ⟨wo.heap.size, 1, none⟩ = some (.slice a1 ds.length p1) := by rw [← hV]; exact Lib.cell?_alloc_some _ k4_wo_heap_size_1
        have kp2 : V.cell? ⟨wo.heap.size, 2, none⟩ = some (.int .i64 E) := by rw [← hV]; exact Lib.cell?_alloc_some _ k4_wo_heap_size_2
        have kp3 : V.cell? ⟨wo.heap.size, 3, none⟩ = some (.int .i64 W) := by rw [← hV]; exact Lib.cell?_alloc_some _ k4_wo_heap_size_3
        have ka0 : V.cell? ⟨v4.heap.size, 0, none⟩ = some (.slice (some ⟨g1, 0, none⟩) xs.length q1) := by rw [← hV]; simp [go_sem]
        have ka1 : V.cell? ⟨v4.heap.size, 1, none⟩ = some (.slice (some ⟨g2, 0, none⟩) ds.length ds.length) := by rw [← hV]; simp [go_sem]
        have xV : Ext wo V := by rw [← hV]; exact (by repeat (first | with_reducible exact Ext.refl _ | with_reducible apply Ext.drew | with_reducible apply Ext.drewN | with_reducible apply Ext.alloc | ((with_reducible refine Ext.setCell ?_ ?_ _); rotate_left; focus (first | (simp; done) | (simp; omega) | omega)) | with_reducible refine Ext.tr ?_ x1 | with_reducible refine Ext.tr ?_ x2 | with_reducible refine Ext.tr ?_ x3 | with_reducible refine Ext.tr ?_ x4 | with_reducible refine Ext.tr ?_ x5 | with_reducible refine Ext.tr ?_ x6 | with_reducible refine Ext.tr ?_ x7 | with_reducible refine Ext.tr ?_ x8 | with_reducible refine Ext.tr ?_ hx | with_reducible refine Ext.tr ?_ hext | with_reducible assumption))
        have BV := Lib.hid (B2.out.ext (show Ext v4 V by rw [← hV]; exact (Ext.refl _).alloc _))
        have RXV := Lib.hid (RX.out.ext (show Ext v4 V by rw [← hV]; exact (Ext.refl _).alloc _))
        have zpa : v4.heap.size < V.heap.size := by rw [← hV]; simp
        have zpp : wo.heap.size < v4.heap.size := z4_wo_heap_size
        rw [hV]
        obtain ⟨pa, hpa⟩ : ∃ pa, v4.heap.size = pa := ⟨_, rfl⟩
        obtain ⟨pp, hpp⟩ : ∃ pp, wo.heap.size = pp := ⟨_, rfl⟩
        rw [hpa] at ka0 ka1 zpa zpp ⊢
        rw [hpp] at kp0 kp1 kp2 kp3 zpp ⊢
        have PPW := Lib.hid (show wo.heap.size ≤ pp by omega)
        have XV := Lib.hid xV
        have HWO := Lib.hid hext.size
        have XW := Lib.hid (hext.tr xV)
        clear hV hpa hpp x3 x4 z3 z4 z3_wo_heap_size z4_wo_heap_size t0 t1 t2 t3 t4 z0 hx B2 RX xV hext
        clear k3_wo_heap_size_0 k3_wo_heap_size_1 k3_wo_heap_size_2 k3_wo_heap_size_3 k3_wo_heap_size_4 k4_wo_heap_size_0 k4_wo_heap_size_1 k4_wo_heap_size_2 k4_wo_heap_size_3 k4_wo_heap_size_4 q3_wo_heap_size_0 q3_wo_heap_size_1 q3_wo_heap_size_2 q3_wo_heap_size_3 q3_wo_heap_size_4 q4_wo_heap_size_0 q4_wo_heap_size_1 q4_wo_heap_size_2 q4_wo_heap_size_3 q4_wo_heap_size_4
        have CT := Lib.hid (fun v (x : Ext wo v) => copyT_any (R0.out.ext x) (R1.out.ext x) (by omega) (by omega))
        have zpV : pp < V.heap.size := by omega
        go_wp2_with (go_at_call 20; refine (num14_any _ _).mono ?_; rintro e w' ⟨rfl, rfl⟩)
        refine (CT.out _ XV.out).mono ?_; rintro e v5 ⟨sm, dm, rfl, x5, tm⟩; obtain ⟨c5, f5⟩ := x5.rules; have z5 := x5.size; have k5_pp_0 := c5 (pp) 0 (by first | (simp; done) | (simp; omega) | omega); have q5_pp_0 := f5 (pp) 0 (by first | (simp; done) | (simp; omega) | omega); have k5_pp_1 := c5 (pp) 1 (by first | (simp; done) | (simp; omega) | omega); have q5_pp_1 := f5 (pp) 1 (by first | (simp; done) | (simp; omega) | omega); have k5_pp_2 := c5 (pp) 2 (by first | (simp; done) | (simp; omega) | omega); have q5_pp_2 := f5 (pp) 2 (by first | (simp; done) | (simp; omega) | omega); have k5_pp_3 := c5 (pp) 3 (by first | (simp; done) | (simp; omega) | omega); have q5_pp_3 := f5 (pp) 3 (by first | (simp; done) | (simp; omega) | omega); have k5_pa_0 := c5 (pa) 0 (by first | (simp; done) | (simp; omega) | omega); have q5_pa_0 := f5 (pa) 0 (by first | (simp; done) | (simp; omega) | omega); have k5_pa_1 := c5 (pa) 1 (by first | (simp; done) | (simp; omega) | omega); have q5_pa_1 := f5 (pa) 1 (by first | (simp; done) | (simp; omega) | omega); have z5_pp : pp < v5.heap.size := (by (try simp at z5); omega); have z5_pa : pa < v5.heap.size := (by (try simp at z5); omega); (try simp at z5); clear c5 f5; simp [go_sem, *] at k5_pp_0 q5_pp_0 k5_pp_1 q5_pp_1 k5_pp_2 q5_pp_2 k5_pp_3 q5_pp_3 k5_pa_0 q5_pa_0 k5_pa_1 q5_pa_1
        obtain ⟨gm, cm, rfl⟩ := slice_some tm.rd hm0
        obtain ⟨asm, csm, rfl, -⟩ := Row.form' tm.row_s
        have TM := Lib.hid tm
        clear tm
        go_wp2_with fail
        refine (CT.out _ (XV.out.tr (by repeat (first | with_reducible exact Ext.refl _ | with_reducible apply Ext.drew | with_reducible apply Ext.drewN | with_reducible apply Ext.alloc | ((with_reducible refine Ext.setCell ?_ ?_ _); rotate_left; focus (first | (simp; done) | (simp; omega) | omega)) | with_reducible refine Ext.tr ?_ x1 | with_reducible refine Ext.tr ?_ x2 | with_reducible refine Ext.tr ?_ x3 | with_reducible refine Ext.tr ?_ x4 | with_reducible refine Ext.tr ?_ x5 | with_reducible refine Ext.tr ?_ x6 | with_reducible refine Ext.tr ?_ x7 | with_reducible refine Ext.tr ?_ x8 | with_reducible refine Ext.tr ?_ hx | with_reducible refine Ext.tr ?_ hext | with_reducible assumption)))).mono ?_; rintro e v6 ⟨sn, dn, rfl, x6, tn⟩; obtain ⟨c6, f6⟩ := x6.rules; have z6 := x6.size; have k6_pp_0 := c6 (pp) 0 (by first | (simp; done) | (simp; omega) | omega); have q6_pp_0 := f6 (pp) 0 (by first | (simp; done) | (simp; omega) | omega); have k6_pp_1 := c6 (pp) 1 (by first | (simp; done) | (simp; omega) | omega); have q6_pp_1 := f6 (pp) 1 (by first | (simp; done) | (simp; omega) | omega); have k6_pp_2 := c6 (pp) 2 (by first | (simp; done) | (simp; omega) | omega); have q6_pp_2 := f6 (pp) 2 (by first | (simp; done) | (simp; omega) | omega); have k6_pp_3 := c6 (pp) 3 (by first | (simp; done) | (simp; omega) | omega); have q6_pp_3 := f6 (pp) 3 (by first | (simp; done) | (simp; omega) | omega); have k6_pa_0 := c6 (pa) 0 (by first | (simp; done) | (simp; omega) | omega); have q6_pa_0 := f6 (pa) 0 (by first | (simp; done) | (simp; omega) | omega); have k6_pa_1 := c6 (pa) 1 (by first | (simp; done) | (simp; omega) | omega); have q6_pa_1 := f6 (pa) 1 (by first | (simp; done) | (simp; omega) | omega); have k6_v5_heap_size_0 := c6 (v5.heap.size) 0 (by first | (simp; done) | (simp; omega) | omega); have q6_v5_heap_size_0 := f6 (v5.heap.size) 0 (by first | (simp; done) | (simp; omega) | omega); have k6_v5_heap_size_1 := c6 (v5.heap.size) 1 (by first | (simp; done) | (simp; omega) | omega); have q6_v5_heap_size_1 := f6 (v5.heap.size) 1 (by first | (simp; done) | (simp; omega) | omega); have z6_pp : pp < v6.heap.size := (by (try simp at z6); omega); have z6_pa : pa < v6.heap.size := (by (try simp at z6); omega); have z6_v5_heap_size : v5.heap.size < v6.heap.size := (by (try simp at z6); omega); (try simp at z6); clear c6 f6; simp [go_sem, *] at k6_pp_0 q6_pp_0 k6_pp_1 q6_pp_1 k6_pp_2 q6_pp_2 k6_pp_3 q6_pp_3 k6_pa_0 q6_pa_0 k6_pa_1 q6_pa_1 k6_v5_heap_size_0 q6_v5_heap_size_0 k6_v5_heap_size_1 q6_v5_heap_size_1
        obtain ⟨gn, cn, rfl⟩ := slice_some tn.rd hm0
        obtain ⟨asn, csn, rfl, -⟩ := Row.form' tn.row_s
        have TN := Lib.hid tn
        clear tn CT
        go_upto_region 15 with (fail)
        obtain ⟨V2, hV2⟩ : ∃ V2 : World, v6.alloc (.cells #[.slice asn xs.length csn, .slice (some ⟨gn, 0, none⟩) ds.length cn] 26) = V2 := ⟨_, rfl⟩
        have X62 : Ext v6 V2 := by rw [← hV2]; exact (Ext.refl _).alloc _
        have tm6 := (TM.out.ext ((Ext.refl v5).alloc (.cells #[.slice asm xs.length csm, .slice (some ⟨gm, 0, none⟩) ds.length cm] 26))).ext x6
        obtain ⟨restm, em, -, hcm, hcm2, hbm⟩ := own_tl tm6.rd
        obtain ⟨restn, en, -, hcn, hcn2, hbn⟩ := own_tl TN.out.rd
        have XV5 : Ext V v5 := x5
        have szg2 := BV.out.lt
        have rxa := RXV.out
        obtain ⟨pm, hpm⟩ : ∃ pm, v5.heap.size = pm := ⟨_, rfl⟩
        obtain ⟨pn, hpn⟩ : ∃ pn, v6.heap.size = pn := ⟨_, rfl⟩
        have gmlt : gm < v5.heap.size := by obtain ⟨_, hb, -⟩ := own_tl TM.out.rd; exact hb.lt
        have s65 : v5.heap.size + 1 ≤ v6.heap.size := by have := x6.size; simp at this; exact this
        have gmV : V.heap.size + 3 ≤ gm := hbm
        have gnV : v5.heap.size + 1 + 3 ≤ gn := by have := hbn; simp at this; exact this
        have zV : pa < V.heap.size := zpa
        have ofm : MovOff gm pp pa pm pn g2 gn (.slice (some ⟨g1, 0, none⟩) xs.length q1) (.slice asm xs.length csm) (.slice asn xs.length csn) := by
          refine ⟨by omega, by omega, by omega, by omega, by omega, by omega, Row.offNew rxa (by omega), fun a n c e h0 => ?_, ?_⟩
          · have h := tm6.ap
            intro hb
            cases e
            exact h _ rfl (by rw [← hb]; rfl)
          · exact off_base (base := v5.heap.size + 1) (fun b hb => by have := (TN.out.rs.lt b hb).1; simp at this; omega) (by omega)
        have ofn : MovOff gn pp pa pm pn g2 gm (.slice (some ⟨g1, 0, none⟩) xs.length q1) (.slice asm xs.length csm) (.slice asn xs.length csn) := by
          have gnlt : gn < v6.heap.size := en.lt
          refine ⟨by omega, by omega, by omega, by omega, by omega, by omega, Row.offNew rxa (by omega), Row.offNew TM.out.row_s (by omega), fun a n c e h0 => ?_⟩
          have h := TN.out.ap
          intro hb
          cases e
          exact h _ rfl (by rw [← hb]; rfl)
        have ml : MovLoc V2 pp pa pm pn g2 gm gn (.slice a1 ds.length p1) (.slice (some ⟨g1, 0, none⟩) xs.length q1) (.slice asm xs.length csm) (.slice asn xs.length csn) E W xs zs (mvL ds W 0) (ngL ds 0) restm restn cm cn := by
          rw [mvL_zero, ngL_zero]
          refine ⟨X62.cell k6_pp_1, X62.cell k6_pp_2, X62.cell k6_pp_3, X62.cell k6_pa_0, ?_, ?_, ?_, ?_, ?_, (BV.out.ext ((XV5.alloc _).tr x6)).ext X62, em.ext X62, en.ext X62, (rxa.ext ((XV5.alloc _).tr x6)).ext X62, tm6.row_s.ext X62, TN.out.row_s.ext X62⟩
          · rw [ZL.out]; exact X62.cell k6_pa_1
          · rw [← hpm]; exact X62.cell k6_v5_heap_size_0
          · rw [← hpm, ZL.out]; exact X62.cell k6_v5_heap_size_1
          · rw [← hpn, ← hV2]; simp [go_sem]
          · rw [← hpn, ← hV2, ZL.out]; simp [go_sem]
        have XV2 := Lib.hid (((XV.out.tr XV5).alloc (.cells #[.slice asm xs.length csm, .slice (some ⟨gm, 0, none⟩) ds.length cm] 26)).tr (x6.tr X62))
        have XW2 := Lib.hid (((XW.out.tr XV5).alloc (.cells #[.slice asm xs.length csm, .slice (some ⟨gm, 0, none⟩) ds.length cm] 26)).tr (x6.tr X62))
        have ML := Lib.hid ml
        have HCM := Lib.hid (And.intro hcm hcm2)
        have HCN := Lib.hid (And.intro hcn hcn2)
        have OFM := Lib.hid ofm
        have OFN := Lib.hid ofn
        have GMW := Lib.hid (show wo.heap.size ≤ gm by have := XV.out.size; omega)
        have GNW := Lib.hid (show wo.heap.size ≤ gn by have := XV.out.size; omega)
        rw [hV2]
        rw [hpm, hpn]
        clear em en tm6 ml ofm ofn rxa XV5 X62 hV2 hpm hpn hcm hcm2 hbm hcn hcn2 hbn TM TN x5 x6 k6_v5_heap_size_0 k6_v5_heap_size_1 kp0 kp1 kp2 kp3 ka0 ka1 zpa zpp szg2 gmlt s65 gmV gnV zV
        have RML := Lib.hid (fun q => mvL_len ds W q)
        have RNL := Lib.hid (fun q => ngL_len ds q)
        go_wp2_with fail
        go_loopw [11, 12] (fun s11 i wr => ∃ q : Nat, q ≤ ds.length ∧ i = .int .i64 q ∧ s11 = .bool (okTo ds W q) ∧ MovLoc wr pp pa pm pn g2 gm gn (.slice a1 ds.length p1) (.slice (some ⟨g1, 0, none⟩) xs.length q1) (.slice asm xs.length csm) (.slice asn xs.length csn) E W xs zs (mvL ds W q) (ngL ds q) restm restn cm cn ∧ Ext wo wr ∧ Ext w wr) (fun _ i _ => ds.length - (intOf i).toNat)
        case atStart => exact ⟨0, Nat.zero_le _, rfl, rfl, ML.out, XV2.out, XW2.out⟩
        case round =>
          clear ML XV2 XW2
          obtain ⟨q, hq, rfl, rfl, ml, x1, x2⟩ := hrel
          have XO := Lib.hid x1
          have XWW := Lib.hid x2
          have ML := Lib.hid ml
          have lm1 := ml.m1
          rw [ZL.out] at lm1
          clear x1 x2
          rcases Nat.lt_or_ge q ds.length with hlq | hgq
          · have hlqz : (q : Int) < (ds.length : Int) := by omega
            obtain ⟨y1, y2⟩ := gd_iff.1 (gd_of_ten HA.out hlq)
            obtain ⟨w1, w2⟩ := gd_iff.1 HGW.out
            have gc := (ml.em.cell q).trans (tl_at restm (by rw [mvL_len]; exact hlq))
            rw [mvL_at hlq, if_neg (by omega)] at gc
            have lp3 := ml.p3
            have szr := ml.em.lt
            have szp := cell_lt ml.p3
            have szm := cell_lt ml.m1
            simp only at szp szm
            have MS := Lib.hid (mvL_set (W := W) hlq)
            have NS := Lib.hid (ngL_set hlq)
            have OK := Lib.hid (okTo_succ ds W q)
            have NC := Lib.hid (fun V' (h : MovLoc V' pp pa pm pn g2 gm gn (.slice a1 ds.length p1) (.slice (some ⟨g1, 0, none⟩) xs.length q1) (.slice asm xs.length csm) (.slice asn xs.length csn) E W xs zs (mvL ds W (q + 1)) (ngL ds q) restm restn cm cn) => (h.en.cell q).trans (tl_at restn (by rw [ngL_len]; exact hlq)))
            rw [ngL_at hlq, if_neg (by omega)] at NC
            generalize ds.getD q 0 = y at gc y1 y2 MS NS OK NC
            have AD := Lib.hid (fun u => Add_ref y W u (by omega) (by omega) (by omega) (by omega))
            clear ml
            go_wp2_with fail
            go_region_with ((go_at_call 22; refine (AD.out _).mono ?_; rintro e v7 ⟨rfl, x7⟩; obtain ⟨c7, f7⟩ := x7.rules; have z7 := x7.size))
            all_goals
              have x7o : Ext wr v7 := (by repeat (first | with_reducible exact Ext.refl _ | with_reducible apply Ext.drew | with_reducible apply Ext.drewN | with_reducible apply Ext.alloc | ((with_reducible refine Ext.setCell ?_ ?_ _); rotate_left; focus (first | (simp; done) | (simp; omega) | omega)) | with_reducible refine Ext.tr ?_ x1 | with_reducible refine Ext.tr ?_ x2 | with_reducible refine Ext.tr ?_ x3 | with_reducible refine Ext.tr ?_ x4 | with_reducible refine Ext.tr ?_ x5 | with_reducible refine Ext.tr ?_ x6 | with_reducible refine Ext.tr ?_ x7 | with_reducible refine Ext.tr ?_ x8 | with_reducible refine Ext.tr ?_ hx | with_reducible refine Ext.tr ?_ hext | with_reducible assumption))
              have ml7 := ML.out.ext x7o
              have km1 := ml7.m1
              rw [ZL.out] at km1
              have kgm := (ml7.em.cell q).trans (tl_at restm (by rw [RML.out]; exact hlq))
              have fgm := ml7.em.frozen q
              generalize (mvL ds W q).getD q 0 = yy at kgm
              have ML7 := Lib.hid ml7
              have X7 := Lib.hid x7o
              clear ml7 x7 x7o AD lp3 lm1 gc ML z7
              go_upto_region 21 with (fail)
              obtain ⟨W8, hW8⟩ : ∃ W8 : World, v7.setCell ⟨gm, q, none⟩ (.int .i64 (wv (y + W))) = W8 := ⟨_, rfl⟩
              have ml8 := ML7.out.setm OFM.out (i := q) (by rw [RML.out]; exact hlq) (wv (y + W))
              rw [hW8, MS.out] at ml8
              have XO8 := Lib.hid (show Ext wo W8 by rw [← hW8]; exact (XO.out.tr X7.out).setCell GMW.out _)
              have XW8 := Lib.hid (show Ext w W8 by rw [← hW8]; exact (XWW.out.tr X7.out).setCell (Nat.le_trans HWO.out GMW.out) _)
              rw [hW8]
              have kn1 := ml8.n1
              rw [ZL.out] at kn1
              have kgn := NC.out _ ml8
              have fgn := ml8.en.frozen q
              have ML8 := Lib.hid ml8
              have wn : IntKind.i64.wrap (-y) = -y := by rw [IntKind.wrap_i64]; omega
              clear hW8 ml8 ML7 X7 km1 kgm fgm XO XWW
              go_region
              have ml9 := ML8.out.setn OFN.out (i := q) (by rw [RNL.out]; exact hlq) (-y)
              rw [NS.out] at ml9
              have XO9 := Lib.hid ((XO8.out).setCell (p := ⟨gn, q, none⟩) GNW.out (.int .i64 (-y)))
              have XW9 := Lib.hid ((XW8.out).setCell (p := ⟨gn, q, none⟩) (Nat.le_trans HWO.out GNW.out) (.int .i64 (-y)))
              have ML9 := Lib.hid ml9
              clear ml9 kn1 kgn fgn ML8 XO8 XW8
              cases hB : okTo ds W q
              · have OK2 := Lib.hid (show okTo ds W (q + 1) = false by rw [OK.out, hB]; rfl)
                clear hB OK
                go_wp2_with fail
                go_roundw
                case rel => exact ⟨q + 1, by omega, by go_num, by rw [OK2.out], ML9.out.ext (Ext.refl _).drew, XO9.out.drew, XW9.out.drew⟩
                case measure => simp [intOf]; omega
              · cases hg : gd (y + W)
                · have OK2 := Lib.hid (show okTo ds W (q + 1) = false by rw [OK.out, hB, hg]; rfl)
                  rw [we_no hg]
                  clear hB hg OK
                  go_wp2_with fail
                  go_roundw
                  case rel => exact ⟨q + 1, by omega, by go_num, by rw [OK2.out], ML9.out.ext (Ext.refl _).drew, XO9.out.drew, XW9.out.drew⟩
                  case measure => simp [intOf]; omega
                · have OK2 := Lib.hid (show okTo ds W (q + 1) = true by rw [OK.out, hB, hg]; rfl)
                  rw [we_of hg]
                  clear hB hg OK
                  go_wp2_with fail
                  go_roundw
                  case rel => exact ⟨q + 1, by omega, by go_num, by rw [OK2.out], ML9.out.ext (Ext.refl _).drew, XO9.out.drew, XW9.out.drew⟩
                  case measure => simp [intOf]; omega
          · have eq : q = ds.length := by omega
            rw [eq] at ml ML ⊢
            have EQQ := Lib.hid eq
            clear eq hq hgq
            go_upto_if 142 with (fail)
            go_cut [11, 16] (fun _s11 _s16 wx => MovLoc wx pp pa pm pn g2 gm gn (.slice a1 ds.length p1) (.slice (some ⟨g1, 0, none⟩) xs.length q1) (.slice asm xs.length csm) (.slice asn xs.length csn) E W xs zs (mvL ds W ds.length) (ngL ds ds.length) restm restn cm cn ∧ Ext wo wx ∧ Ext w wx)
            case first =>
              cases hok : okTo ds W ds.length
              · clear hok
                go_wp2_with fail
                go_meet
                exact ⟨ML.out, XO.out, XWW.out⟩
              · have RM := Lib.hid (Row.of_tl ml.em (RML.out ds.length) HCM.out.1 HCM.out.2)
                have MT := Lib.hid (mv_ten HA.out hok)
                have NM2 := Lib.hid (fun v (x : Ext wr v) => nNorm_ok (eps := E) (f := f) (ml.rsm.ext x) (RM.out.ext x) MT.out HG.out hE0 GF.out hx0 (by rw [RML.out]; exact h24) n HN0.out)
                have OKH := Lib.hid hok
                have k0 := ml.m0
                have k1 := ml.m1
                rw [ZL.out] at k1
                have k2 := ml.p2
                have ka0 := ml.a0
                have ka1 := ml.a1
                rw [ZL.out] at ka1
                have zpm := cell_lt ml.m0
                have zpp := cell_lt ml.p2
                have zpa := cell_lt ml.a0
                simp only at zpm zpp zpa
                clear hok ml
                go_wp2_with fail
                refine (NM2.out _ (by repeat (first | with_reducible exact Ext.refl _ | with_reducible apply Ext.drew | with_reducible apply Ext.drewN | with_reducible apply Ext.alloc | ((with_reducible refine Ext.setCell ?_ ?_ _); rotate_left; focus (first | (simp; done) | (simp; omega) | omega)) | with_reducible refine Ext.tr ?_ x1 | with_reducible refine Ext.tr ?_ x2 | with_reducible refine Ext.tr ?_ x3 | with_reducible refine Ext.tr ?_ x4 | with_reducible refine Ext.tr ?_ x5 | with_reducible refine Ext.tr ?_ x6 | with_reducible refine Ext.tr ?_ x7 | with_reducible refine Ext.tr ?_ x8 | with_reducible refine Ext.tr ?_ hx | with_reducible refine Ext.tr ?_ hext | with_reducible assumption))).mono ?_
                rintro e v7 ⟨nv, rfl, x7, nr⟩
                have nr2 := nr.is
                rw [RML.out] at nr2
                obtain ⟨g3, q3, cur3, g4, ys, rfl, e1, e2, e3, e4, e5, hb4, -, -, hyl, hN2⟩ := nr2
                have RY := Lib.hid (Row.of_owns (own_of_cur (base := 0) e1 e2 e3 e4 e5 (Nat.zero_le _))).1
                have SAME := Lib.hid (mv_same HM.out n0 hE0 OKH.out ZL.out hyl HN.out hN2)
                have YL := Lib.hid hyl
                have HB4 := Lib.hid hb4
                have X7 := Lib.hid (show Ext wr v7 from (by repeat (first | with_reducible exact Ext.refl _ | with_reducible apply Ext.drew | with_reducible apply Ext.drewN | with_reducible apply Ext.alloc | ((with_reducible refine Ext.setCell ?_ ?_ _); rotate_left; focus (first | (simp; done) | (simp; omega) | omega)) | with_reducible refine Ext.tr ?_ x1 | with_reducible refine Ext.tr ?_ x2 | with_reducible refine Ext.tr ?_ x3 | with_reducible refine Ext.tr ?_ x4 | with_reducible refine Ext.tr ?_ x5 | with_reducible refine Ext.tr ?_ x6 | with_reducible refine Ext.tr ?_ x7 | with_reducible refine Ext.tr ?_ x8 | with_reducible refine Ext.tr ?_ hx | with_reducible refine Ext.tr ?_ hext | with_reducible assumption)))
                have KA := Lib.hid (And.intro (X7.out.cell ka0) (X7.out.cell ka1))
                have ZA := Lib.hid (show pa < v7.heap.size by have := X7.out.size; omega)
                clear nr e1 e2 e3 e4 e5 hb4 hyl hN2 NM2 k0 k1 k2 ka0 ka1 x7 RM MT
                go_upto_region 25 with (fail)
                obtain ⟨V4, hV4⟩ : ∃ V4 : World, v7.alloc (.cells #[.slice (some ⟨g3, 0, none⟩) xs.length q3, .slice (some ⟨g4, 0, none⟩) ds.length ds.length] 26) = V4 := ⟨_, rfl⟩
                have X74 : Ext v7 V4 := by rw [← hV4]; exact (Ext.refl _).alloc _
                have EQ := Lib.hid (fun u (x : Ext V4 u) => eqT_same (((ML.out.ra.ext X7.out).ext X74).ext x) (Row.of_blk (((ML.out.b2.ext X7.out).ext X74).ext x) ZL.out (by unfold maxLen; omega)) ((RY.out.ext X74).ext x) (Row.of_blk (l := zs) (by rw [SAME.out]; exact (HB4.out.ext X74).ext x) ZL.out (by unfold maxLen; omega)))
                have j0 := X74.cell KA.out.1
                have j1 := X74.cell KA.out.2
                have j2 : V4.cell? ⟨v7.heap.size, 0, none⟩ = some (.slice (some ⟨g3, 0, none⟩) xs.length q3) := by rw [← hV4]; simp [go_sem]
                have j3 : V4.cell? ⟨v7.heap.size, 1, none⟩ = some (.slice (some ⟨g4, 0, none⟩) ds.length ds.length) := by rw [← hV4]; simp [go_sem]
                have XF := Lib.hid (X7.out.tr X74)
                rw [hV4]
                clear hV4 X74 RY HB4 KA
                go_wp2_with (go_at_call 20; refine (num14_any _ _).mono ?_; rintro e w' ⟨rfl, rfl⟩)
                refine (EQ.out _ (by repeat (first | with_reducible exact Ext.refl _ | with_reducible apply Ext.drew | with_reducible apply Ext.drewN | with_reducible apply Ext.alloc | ((with_reducible refine Ext.setCell ?_ ?_ _); rotate_left; focus (first | (simp; done) | (simp; omega) | omega)) | with_reducible refine Ext.tr ?_ x1 | with_reducible refine Ext.tr ?_ x2 | with_reducible refine Ext.tr ?_ x3 | with_reducible refine Ext.tr ?_ x4 | with_reducible refine Ext.tr ?_ x5 | with_reducible refine Ext.tr ?_ x6 | with_reducible refine Ext.tr ?_ x7 | with_reducible refine Ext.tr ?_ x8 | with_reducible refine Ext.tr ?_ hx | with_reducible refine Ext.tr ?_ hext | with_reducible assumption))).mono ?_
                rintro e v8 ⟨rfl, x8⟩
                go_wp2_with fail
                go_meet
                have X78 : Ext wr v8 := XF.out.tr (by repeat (first | with_reducible exact Ext.refl _ | with_reducible apply Ext.drew | with_reducible apply Ext.drewN | with_reducible apply Ext.alloc | ((with_reducible refine Ext.setCell ?_ ?_ _); rotate_left; focus (first | (simp; done) | (simp; omega) | omega)) | with_reducible refine Ext.tr ?_ x1 | with_reducible refine Ext.tr ?_ x2 | with_reducible refine Ext.tr ?_ x3 | with_reducible refine Ext.tr ?_ x4 | with_reducible refine Ext.tr ?_ x5 | with_reducible refine Ext.tr ?_ x6 | with_reducible refine Ext.tr ?_ x7 | with_reducible refine Ext.tr ?_ x8 | with_reducible refine Ext.tr ?_ hx | with_reducible refine Ext.tr ?_ hext | with_reducible assumption))
                exact ⟨ML.out.ext X78, XO.out.tr X78, XWW.out.tr X78⟩
            case rest =>
              clear ml ML XO XWW
              obtain ⟨ml, x1, x2⟩ := hcut
              have RN := Lib.hid (Row.of_tl ml.en (RNL.out ds.length) HCN.out.1 HCN.out.2)
              have NT := Lib.hid (ng_ten HA.out)
              have NM3 := Lib.hid (fun v (x : Ext wc v) => nNorm_ok (eps := E) (f := f) (ml.rsn.ext x) (RN.out.ext x) NT.out HG.out hE0 GF.out hx0 (by rw [RNL.out]; exact h24) n HN0.out)
              have k0 := ml.n0
              have k1 := ml.n1
              rw [ZL.out] at k1
              have k2 := ml.p2
              have zpn := cell_lt ml.n0
              have zpp := cell_lt ml.p2
              simp only at zpn zpp
              have ML := Lib.hid ml
              have XO := Lib.hid x1
              have XWW := Lib.hid x2
              clear ml x1 x2
              go_wp2_with fail
              refine (NM3.out _ (by repeat (first | with_reducible exact Ext.refl _ | with_reducible apply Ext.drew | with_reducible apply Ext.drewN | with_reducible apply Ext.alloc | ((with_reducible refine Ext.setCell ?_ ?_ _); rotate_left; focus (first | (simp; done) | (simp; omega) | omega)) | with_reducible refine Ext.tr ?_ x1 | with_reducible refine Ext.tr ?_ x2 | with_reducible refine Ext.tr ?_ x3 | with_reducible refine Ext.tr ?_ x4 | with_reducible refine Ext.tr ?_ x5 | with_reducible refine Ext.tr ?_ x6 | with_reducible refine Ext.tr ?_ x7 | with_reducible refine Ext.tr ?_ x8 | with_reducible refine Ext.tr ?_ hx | with_reducible refine Ext.tr ?_ hext | with_reducible assumption))).mono ?_
              rintro e v7 ⟨nv, rfl, x7, nr⟩
              have nr2 := nr.is
              rw [RNL.out] at nr2
              obtain ⟨g3, q3, cur3, g4, ys, rfl, -, -, -, -, -, hb4, -, -, hyl, hN2⟩ := nr2
              have NEG := Lib.hid (fun i (hi : i < ds.length) => ng_same HM.out n0 hE0 HN.out hN2 hi)
              have YL := Lib.hid hyl
              have X7 := Lib.hid (show Ext wc v7 from (by repeat (first | with_reducible exact Ext.refl _ | with_reducible apply Ext.drew | with_reducible apply Ext.drewN | with_reducible apply Ext.alloc | ((with_reducible refine Ext.setCell ?_ ?_ _); rotate_left; focus (first | (simp; done) | (simp; omega) | omega)) | with_reducible refine Ext.tr ?_ x1 | with_reducible refine Ext.tr ?_ x2 | with_reducible refine Ext.tr ?_ x3 | with_reducible refine Ext.tr ?_ x4 | with_reducible refine Ext.tr ?_ x5 | with_reducible refine Ext.tr ?_ x6 | with_reducible refine Ext.tr ?_ x7 | with_reducible refine Ext.tr ?_ x8 | with_reducible refine Ext.tr ?_ hx | with_reducible refine Ext.tr ?_ hext | with_reducible assumption)))
              have HB4 := Lib.hid hb4
              clear nr hb4 hyl hN2 NM3 k0 k1 k2 x7 RN NT
              go_upto_region 28 with (fail)
              obtain ⟨V3, hV3⟩ : ∃ V3 : World, v7.alloc (.cells #[.slice (some ⟨g3, 0, none⟩) xs.length q3, .slice (some ⟨g4, 0, none⟩) ds.length ds.length] 26) = V3 := ⟨_, rfl⟩
              have X73 : Ext wc V3 := by rw [← hV3]; exact X7.out.alloc _
              have ml3 := ML.out.ext X73
              have lp1 := ml3.p1
              have la1 := ml3.a1
              rw [ZL.out] at la1
              have ly1 : V3.cell? ⟨v7.heap.size, 1, none⟩ = some (.slice (some ⟨g4, 0, none⟩) ds.length ds.length) := by rw [← hV3]; simp [go_sem]
              have BZ := Lib.hid ml3.b2
              have BY := Lib.hid (show Blk V3 g4 2 (ints ys) by rw [← hV3]; exact HB4.out.alloc _)
              have XO3 := Lib.hid (XO.out.tr X73)
              have XW3 := Lib.hid (XWW.out.tr X73)
              rw [hV3]
              obtain ⟨py, hpy⟩ : ∃ py, v7.heap.size = py := ⟨_, rfl⟩
              rw [hpy] at ly1 ⊢
              clear hV3 hpy X73 ml3 ML XO XWW X7 HB4 zpn zpp RML RNL HCM HCN OFM OFN GMW GNW
              obtain ⟨bd, od, rfl, cd⟩ := hxc_of R1.out (by intro e; subst e; simp at hm0)
              have CD := Lib.hid (fun i (hi : i < ds.length) => XO3.out.cell (cd i hi))
              clear cd
              go_wp2_with (go_at_call 20; refine (num14_any _ _).mono ?_; rintro e w' ⟨rfl, rfl⟩)
              have CZ := Lib.hid (fun i (hi : i < ds.length) => (BZ.out.cell i).trans (ints_at zs i (by rw [ZL.out]; exact hi)))
              have CY := Lib.hid (fun i (hi : i < ds.length) => ((BY.out.cell i).trans (ints_at ys i (by rw [YL.out]; exact hi))).trans (by rw [NEG.out i hi]))
              have FA := Lib.hid (nm_facts HM.out n0 h24 hE0 (gdF_iff.1 GF.out).1 (gdF_iff.1 GF.out).2 HN.out)
              refine nm_loop3 V3 pp pa py g2 g4 bd od _ ds.length n m f ds zs HM.out n0 h24 (gdF_iff.1 GF.out).1 (gdF_iff.1 GF.out).2 lp1 la1 ly1 CD.out CZ.out CY.out FA.out.1 FA.out.2.1 FA.out.2.2 _ _ _ _ _ _ _ _ _ _ _ _ _ _ _ _ _ _ _ _ _ _ _ _ _ _ _ _ _ _ _ _ _ _ _ _ _ _ _ _ _ _ _ _ _ _ _ _ _ _ _ _ _ _ _ _ _ _ _ _ _ _ _ _ _ _ _ _ _ _ _ _ _ _ _ _ _ _ _ _ _ _ _ _ _ _ _ _ _ _ _ _ _ _ _ _ _ _ _ _ _ _ _ _ _ _ _ _ _ _ _ _ _ _ _ _ _ _ _ _ _ _ _ _ _ _ _ _ _ _ _ _ _ _ _ _ _ _ _ _ _ _ _ _ _ _ _ _ _ _ _ _ _ _ _ _ _ _ _ _ _ _ _ _ _ _ _ _ _ _ _ _ _ _ _ _ _ _ _ _ _ _ _ _ _ _ _ _ _ _ _ _ _ _ _ _ _ _ _ _ _ _ _ _ _ _ _ _ _ _ _ _ _ _ _ _ _ _ _ _ _ _ _ _ _ _ _ _ _ _ _ _ _ _ _ _ _ _ _ _ _ _ _ _ _ _ _ _ _ _ _ _ _ _ _ _ _ _ _ _ _ _ _ _ _ _ _ _ _ _ _ _ _ _ _ _ _ _ _ _ _ _ _ _ _ _ _ _ _ _ _ _ _ _ _ _ _ _ _ _ _ _ _ _ _ _ _ _ _ _ _ _ _ _ _ _ _ _ _ _ _ ?_
              intros
              rename_i w9 hx9
              have H7 := Lib.hid (XW3.out.tr hx9)
              clear CZ CY FA lp1 la1 ly1 BZ BY CD hx9
              go_wp2_with fail
              go_roundw
              case rel => exact ⟨k + 1, by omega, by go_num, H7.out⟩
              case measure => simp [intOf]; omega
    · have W := Lib.hid wakes14
      by_cases h1 : k < len
      · go_wp2_with fail
        refine (W.out _).mono ?_
        rintro e w' ⟨rfl, xw⟩
        go_wp2
        go_ret
        exact ⟨rfl, hext.tr xw⟩
      · go_wp2_with fail
        refine (W.out _).mono ?_
        rintro e w' ⟨rfl, xw⟩
        go_wp2
        go_ret
        exact ⟨rfl, hext.tr xw⟩
end Go.Proofs.Ytjmecongccjcgaa
