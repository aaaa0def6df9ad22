/- Generators with scripts of their own. -/
import Derived.Test.YtmbgaonnknaclaaRand
import Derived.Test.YtmbgaonnknaclaaClones
namespace Go.Proofs.Ytmbgaonnknaclaa
open Go.RowKit
attribute [local go_sem ↓] Go.wp_at_zero Go.wp_at_succ
theorem own_row5 {W : World} {base b n : Nat} {e : TypeId} {v : Value} {xs : List Value} (r : W.ownsRow base e 1 v n xs) (h : b < base) (x0 x1 x2 x3 x4 : Value) :
    (((((W.setCell ⟨b, 0, none⟩ x0).setCell ⟨b, 1, none⟩ x1).setCell ⟨b, 2, none⟩ x2).setCell ⟨b, 3, none⟩ x3).setCell ⟨b, 4, none⟩ x4).ownsRow base e 1 v n xs :=
  ownsRow_setCell_below (ownsRow_setCell_below (ownsRow_setCell_below (ownsRow_setCell_below (ownsRow_setCell_below r h _) h _) h _) h _) h _
theorem own_ext5 {w W : World} {b : Nat} (x : Ext w W) (h : w.heap.size ≤ b) (x0 x1 x2 x3 x4 : Value) :
    Ext w (((((W.setCell ⟨b, 0, none⟩ x0).setCell ⟨b, 1, none⟩ x1).setCell ⟨b, 2, none⟩ x2).setCell ⟨b, 3, none⟩ x3).setCell ⟨b, 4, none⟩ x4) :=
  Ext.setCell (Ext.setCell (Ext.setCell (Ext.setCell (Ext.setCell x h _) h _) h _) h _) h _
theorem own_base {w : World} {base base' : Nat} {e : TypeId} {size : Nat} {v : Value} {n : Nat} {xs : List Value} (h : w.ownsRow base e size v n xs) (hb : base' ≤ base) : w.ownsRow base' e size v n xs := by
  refine ⟨h.1, ?_⟩
  rcases h.2 with h0 | ⟨g, cap, cur, hv, h1, h2⟩
  · exact .inl h0
  · exact .inr ⟨g, cap, cur, hv, Nat.le_trans hb h1, h2⟩
theorem own_old {w w' : World} {base : Nat} {e : TypeId} {size : Nat} {v : Value} {n : Nat} {xs : List Value} (h : w.ownsRow base e size v n xs) (x : Ext w w') : w'.ownsRow base e size v n xs :=
  h.kept (row := none) ⟨x.os, x.tape, x.output, x.size, fun k hk _ => x.block k hk⟩ (by cases hv : v.ownBlock <;> simp)
/-- A generator whose script lies in new memory: none of the blocks below base. -/
def RandNew (base : Nat) (w : World) (v : Value) (g : Gen) : Prop :=
  ∃ a c, v = .agg #[.slice a g.script.length c, .int .u64 (iv g.st.a), .int .u64 (iv g.st.b), .int .u64 (iv g.st.c), .int .u64 (iv g.st.d)] ∧ w.ownsRow base 24 1 (.slice a g.script.length c) g.script.length (g.script.map (Value.int .u64))
theorem RandNew.at {base : Nat} {w : World} {v : Value} {g : Gen} (h : RandNew base w v g) : RandAt w v g := by
  obtain ⟨a, c, rfl, r⟩ := h
  exact ⟨a, c, rfl, (Row.of_owns r).1⟩
theorem RandNew.ext {base : Nat} {w w' : World} {v : Value} {g : Gen} (h : RandNew base w v g) (x : Ext w w') : RandNew base w' v g := by
  obtain ⟨a, c, rfl, r⟩ := h
  exact ⟨a, c, rfl, own_old r x⟩
theorem RandNew.base {base base' : Nat} {w : World} {v : Value} {g : Gen} (h : RandNew base w v g) (hb : base' ≤ base) : RandNew base' w v g := by
  obtain ⟨a, c, rfl, r⟩ := h
  exact ⟨a, c, rfl, own_base r hb⟩
theorem RandNew.set5 {base b : Nat} {w : World} {v : Value} {g : Gen} (h : RandNew base w v g) (hb : b < base) (x0 x1 x2 x3 x4 : Value) : RandNew base (((((w.setCell ⟨b, 0, none⟩ x0).setCell ⟨b, 1, none⟩ x1).setCell ⟨b, 2, none⟩ x2).setCell ⟨b, 3, none⟩ x3).setCell ⟨b, 4, none⟩ x4) v g := by
  obtain ⟨a, c, rfl, r⟩ := h
  exact ⟨a, c, rfl, own_row5 r hb x0 x1 x2 x3 x4⟩
set_option maxRecDepth 100000 in
set_option maxHeartbeats 2000000 in
theorem own_rng {v : Value} {g : Gen} {w : World} (h : RandAt w v g) (hl : g.script.length ≤ 1000000) :
    Calls Try.prog 57 #[v] w fun e w' => ∃ v', e = .returned v' ∧ Ext w w' ∧ RandNew w.heap.size w' v' g := by
  obtain ⟨a, c, rfl, hr⟩ := h
  obtain ⟨sc, ⟨A, B, C, D⟩⟩ := g
  simp only at hr hl ⊢
  have H : Hid (∀ W : World, Ext w W → Calls Try.prog 97 #[.slice a sc.length c] W fun e w' => ∃ a' c', e = .returned (.slice a' sc.length c') ∧ Ext W w' ∧ Hid (w'.ownsRow W.heap.size 24 1 (.slice a' sc.length c') sc.length (sc.map (Value.int .u64)))) := Lib.hid (fun (W : World) (x : Ext w W) => (cloneU_any (hr.ext x) hl).mono (by
    rintro e w' ⟨u, rfl, x, r⟩
    have r' := (Row.of_owns r).1
    obtain ⟨a', c', rfl, -⟩ := r'.form'
    exact ⟨a', c', rfl, x, Lib.hid r⟩))
  clear hr
  go_enter Try.func57, Try.ntmps57
  go_wp2
  go_region_with (go_at_call 97; refine (H.out _ (by repeat (first | with_reducible exact Ext.refl _ | with_reducible apply Ext.drew | with_reducible apply Ext.drewN | with_reducible apply Ext.alloc | ((with_reducible refine Ext.setCell ?_ ?_ _); rotate_left; focus (first | (simp; done) | (simp; omega) | omega)) | with_reducible refine Ext.tr ?_ x1 | with_reducible refine Ext.tr ?_ x2 | with_reducible refine Ext.tr ?_ x3 | with_reducible refine Ext.tr ?_ x4 | with_reducible assumption))).mono ?_; rintro e v1 ⟨u1, u2, rfl, x1, r1⟩; obtain ⟨c1, f1⟩ := x1.rules; have z1 := x1.size; have k1_0_0 := c1 (w.heap.size) 0 (by first | (simp; done) | (simp; omega) | omega); have q1_0_0 := f1 (w.heap.size) 0 (by first | (simp; done) | (simp; omega) | omega); have k1_0_1 := c1 (w.heap.size) 1 (by first | (simp; done) | (simp; omega) | omega); have q1_0_1 := f1 (w.heap.size) 1 (by first | (simp; done) | (simp; omega) | omega); have k1_0_2 := c1 (w.heap.size) 2 (by first | (simp; done) | (simp; omega) | omega); have q1_0_2 := f1 (w.heap.size) 2 (by first | (simp; done) | (simp; omega) | omega); have k1_0_3 := c1 (w.heap.size) 3 (by first | (simp; done) | (simp; omega) | omega); have q1_0_3 := f1 (w.heap.size) 3 (by first | (simp; done) | (simp; omega) | omega); have k1_0_4 := c1 (w.heap.size) 4 (by first | (simp; done) | (simp; omega) | omega); have q1_0_4 := f1 (w.heap.size) 4 (by first | (simp; done) | (simp; omega) | omega); have k1_1_0 := c1 (w.heap.size + 1) 0 (by first | (simp; done) | (simp; omega) | omega); have q1_1_0 := f1 (w.heap.size + 1) 0 (by first | (simp; done) | (simp; omega) | omega); have k1_1_1 := c1 (w.heap.size + 1) 1 (by first | (simp; done) | (simp; omega) | omega); have q1_1_1 := f1 (w.heap.size + 1) 1 (by first | (simp; done) | (simp; omega) | omega); have k1_1_2 := c1 (w.heap.size + 1) 2 (by first | (simp; done) | (simp; omega) | omega); have q1_1_2 := f1 (w.heap.size + 1) 2 (by first | (simp; done) | (simp; omega) | omega); have k1_1_3 := c1 (w.heap.size + 1) 3 (by first | (simp; done) | (simp; omega) | omega); have q1_1_3 := f1 (w.heap.size + 1) 3 (by first | (simp; done) | (simp; omega) | omega); have k1_1_4 := c1 (w.heap.size + 1) 4 (by first | (simp; done) | (simp; omega) | omega); have q1_1_4 := f1 (w.heap.size + 1) 4 (by first | (simp; done) | (simp; omega) | omega); have z1_0 : w.heap.size < v1.heap.size := (by (try simp at z1); omega); have z1_1 : w.heap.size + 1 < v1.heap.size := (by (try simp at z1); omega); (try simp at z1); clear c1 f1; simp [go_sem, *] at k1_0_0 q1_0_0 k1_0_1 q1_0_1 k1_0_2 q1_0_2 k1_0_3 q1_0_3 k1_0_4 q1_0_4 k1_1_0 q1_1_0 k1_1_1 q1_1_1 k1_1_2 q1_1_2 k1_1_3 q1_1_3 k1_1_4 q1_1_4)
  all_goals
    go_wp2
    simp [bodyPost, results, Try.results57, go_sem, *]
    exact ⟨own_ext5 (by repeat (first | with_reducible exact Ext.refl _ | with_reducible apply Ext.drew | with_reducible apply Ext.drewN | with_reducible apply Ext.alloc | ((with_reducible refine Ext.setCell ?_ ?_ _); rotate_left; focus (first | (simp; done) | (simp; omega) | omega)) | with_reducible refine Ext.tr ?_ x1 | with_reducible refine Ext.tr ?_ x2 | with_reducible refine Ext.tr ?_ x3 | with_reducible refine Ext.tr ?_ x4 | with_reducible assumption)) (by omega) _ _ _ _ _, _, _, rfl, own_base (own_row5 r1.out (by simp) _ _ _ _ _) (by first | (simp; done) | (simp; omega))⟩
set_option maxRecDepth 100000 in
set_option maxHeartbeats 2000000 in
theorem own_seed {v : Value} {g : Gen} {w : World} (h : RandAt w v g) (hl : g.script.length ≤ 1000000) :
    Calls Try.prog 54 #[v] w fun e w' => ∃ v', e = .returned v' ∧ Ext w w' ∧ RandNew w.heap.size w' v' g := by
  obtain ⟨a, c, rfl, hr⟩ := h
  obtain ⟨sc, ⟨A, B, C, D⟩⟩ := g
  simp only at hr hl ⊢
  have H : Hid (∀ W : World, Ext w W → Calls Try.prog 97 #[.slice a sc.length c] W fun e w' => ∃ a' c', e = .returned (.slice a' sc.length c') ∧ Ext W w' ∧ Hid (w'.ownsRow W.heap.size 24 1 (.slice a' sc.length c') sc.length (sc.map (Value.int .u64)))) := Lib.hid (fun (W : World) (x : Ext w W) => (cloneU_any (hr.ext x) hl).mono (by
    rintro e w' ⟨u, rfl, x, r⟩
    have r' := (Row.of_owns r).1
    obtain ⟨a', c', rfl, -⟩ := r'.form'
    exact ⟨a', c', rfl, x, Lib.hid r⟩))
  clear hr
  go_enter Try.func54, Try.ntmps54
  go_wp2
  go_region_with (go_at_call 97; refine (H.out _ (by repeat (first | with_reducible exact Ext.refl _ | with_reducible apply Ext.drew | with_reducible apply Ext.drewN | with_reducible apply Ext.alloc | ((with_reducible refine Ext.setCell ?_ ?_ _); rotate_left; focus (first | (simp; done) | (simp; omega) | omega)) | with_reducible refine Ext.tr ?_ x1 | with_reducible refine Ext.tr ?_ x2 | with_reducible refine Ext.tr ?_ x3 | with_reducible refine Ext.tr ?_ x4 | with_reducible assumption))).mono ?_; rintro e v1 ⟨u1, u2, rfl, x1, r1⟩; obtain ⟨c1, f1⟩ := x1.rules; have z1 := x1.size; have k1_0_0 := c1 (w.heap.size) 0 (by first | (simp; done) | (simp; omega) | omega); have q1_0_0 := f1 (w.heap.size) 0 (by first | (simp; done) | (simp; omega) | omega); have k1_0_1 := c1 (w.heap.size) 1 (by first | (simp; done) | (simp; omega) | omega); have q1_0_1 := f1 (w.heap.size) 1 (by first | (simp; done) | (simp; omega) | omega); have k1_0_2 := c1 (w.heap.size) 2 (by first | (simp; done) | (simp; omega) | omega); have q1_0_2 := f1 (w.heap.size) 2 (by first | (simp; done) | (simp; omega) | omega); have k1_0_3 := c1 (w.heap.size) 3 (by first | (simp; done) | (simp; omega) | omega); have q1_0_3 := f1 (w.heap.size) 3 (by first | (simp; done) | (simp; omega) | omega); have k1_0_4 := c1 (w.heap.size) 4 (by first | (simp; done) | (simp; omega) | omega); have q1_0_4 := f1 (w.heap.size) 4 (by first | (simp; done) | (simp; omega) | omega); have k1_1_0 := c1 (w.heap.size + 1) 0 (by first | (simp; done) | (simp; omega) | omega); have q1_1_0 := f1 (w.heap.size + 1) 0 (by first | (simp; done) | (simp; omega) | omega); have k1_1_1 := c1 (w.heap.size + 1) 1 (by first | (simp; done) | (simp; omega) | omega); have q1_1_1 := f1 (w.heap.size + 1) 1 (by first | (simp; done) | (simp; omega) | omega); have k1_1_2 := c1 (w.heap.size + 1) 2 (by first | (simp; done) | (simp; omega) | omega); have q1_1_2 := f1 (w.heap.size + 1) 2 (by first | (simp; done) | (simp; omega) | omega); have k1_1_3 := c1 (w.heap.size + 1) 3 (by first | (simp; done) | (simp; omega) | omega); have q1_1_3 := f1 (w.heap.size + 1) 3 (by first | (simp; done) | (simp; omega) | omega); have k1_1_4 := c1 (w.heap.size + 1) 4 (by first | (simp; done) | (simp; omega) | omega); have q1_1_4 := f1 (w.heap.size + 1) 4 (by first | (simp; done) | (simp; omega) | omega); have z1_0 : w.heap.size < v1.heap.size := (by (try simp at z1); omega); have z1_1 : w.heap.size + 1 < v1.heap.size := (by (try simp at z1); omega); (try simp at z1); clear c1 f1; simp [go_sem, *] at k1_0_0 q1_0_0 k1_0_1 q1_0_1 k1_0_2 q1_0_2 k1_0_3 q1_0_3 k1_0_4 q1_0_4 k1_1_0 q1_1_0 k1_1_1 q1_1_1 k1_1_2 q1_1_2 k1_1_3 q1_1_3 k1_1_4 q1_1_4)
  all_goals
    go_wp2
    simp [bodyPost, results, Try.results54, go_sem, *]
    exact ⟨own_ext5 (by repeat (first | with_reducible exact Ext.refl _ | with_reducible apply Ext.drew | with_reducible apply Ext.drewN | with_reducible apply Ext.alloc | ((with_reducible refine Ext.setCell ?_ ?_ _); rotate_left; focus (first | (simp; done) | (simp; omega) | omega)) | with_reducible refine Ext.tr ?_ x1 | with_reducible refine Ext.tr ?_ x2 | with_reducible refine Ext.tr ?_ x3 | with_reducible refine Ext.tr ?_ x4 | with_reducible assumption)) (by omega) _ _ _ _ _, _, _, rfl, own_base (own_row5 r1.out (by simp) _ _ _ _ _) (by first | (simp; done) | (simp; omega))⟩
end Go.Proofs.Ytmbgaonnknaclaa
