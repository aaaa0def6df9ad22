/- EqLayer, EqLayers, EqDef of what is the same. -/
import Derived.Test.YtgokenbojppnhaaDoorDefText
import Derived.Test.YtgokenbojppnhaaDoorLists
import Derived.StillTailTactics
namespace Go.Proofs.YtgokenbojppnhaaDoor
open Go.RowKit
def EqOk (n : Nat) : Prop := ∀ (A B : Nat → Prop) (v u : Value) (L : List Lay) (w : World), LaysAt A w n v L → LaysAt B w n u L →
  Calls Tryd.prog 24 #[v, u] w fun e w' => e = .returned (.bool true) ∧ Ext w w'
set_option maxHeartbeats 2000000 in
theorem eqLayer_of (n : Nat) (IH : EqOk n) {A B : Nat → Prop} {f g : LayF} {bv bu : Value} {L : List Lay} {w : World} (h1 : LaysAt A w n bv L) (h2 : LaysAt B w n bu L) :
    Calls Tryd.prog 35 #[.agg (layA f bv), .agg (layA g bu)] w fun e w' => e = .returned (.bool (decide (f = g))) ∧ Ext w w' := by
  obtain ⟨fk, fi, fo, fs, ft, fp, fc, fh⟩ := f
  obtain ⟨gk, gi, go, gs, gt, gp, gc, gh⟩ := g
  obtain ⟨a1, c1, rfl⟩ := h1.form
  obtain ⟨a2, c2, rfl⟩ := h2.form
  have CA := Lib.hid (fun u (x : Ext w u) => IH _ _ _ _ _ _ (h1.ext x) (h2.ext x))
  simp only [layA, LayF.mk.injEq]
  clear h1 h2 IH
  by_cases e0 : fk = gk
  rotate_left
  · have n0 : (fk == gk) = false := by simpa using e0
    rw [decide_eq_false (fun h => e0 (by exact h.1))]
    clear CA e0
    go_enter Tryd.func35, Tryd.ntmps35
    go_wp2
    go_ret
    exact ⟨rfl, (by repeat (first | with_reducible exact Ext.refl _ | with_reducible apply Ext.drew | with_reducible apply Ext.drewN | with_reducible apply Ext.alloc | ((with_reducible refine Ext.setCell ?_ ?_ _); rotate_left; focus (first | (simp; done) | (simp; omega) | omega)) | with_reducible refine Ext.tr ?_ x1 | with_reducible refine Ext.tr ?_ hext | with_reducible assumption))⟩
  subst e0
  have n0 : (fk == fk) = true := by simp
  by_cases e1 : fi = gi
  rotate_left
  · have n1 : (fi == gi) = false := by simpa using e1
    rw [decide_eq_false (fun h => e1 (by exact h.2.1))]
    clear CA e1
    go_enter Tryd.func35, Tryd.ntmps35
    go_wp2
    go_ret
    exact ⟨rfl, (by repeat (first | with_reducible exact Ext.refl _ | with_reducible apply Ext.drew | with_reducible apply Ext.drewN | with_reducible apply Ext.alloc | ((with_reducible refine Ext.setCell ?_ ?_ _); rotate_left; focus (first | (simp; done) | (simp; omega) | omega)) | with_reducible refine Ext.tr ?_ x1 | with_reducible refine Ext.tr ?_ hext | with_reducible assumption))⟩
  subst e1
  have n1 : (fi == fi) = true := by simp
  by_cases e2 : fo = go
  rotate_left
  · have n2 : (fo == go) = false := by simpa using e2
    rw [decide_eq_false (fun h => e2 (by exact h.2.2.1))]
    clear CA e2
    go_enter Tryd.func35, Tryd.ntmps35
    go_wp2
    go_ret
    exact ⟨rfl, (by repeat (first | with_reducible exact Ext.refl _ | with_reducible apply Ext.drew | with_reducible apply Ext.drewN | with_reducible apply Ext.alloc | ((with_reducible refine Ext.setCell ?_ ?_ _); rotate_left; focus (first | (simp; done) | (simp; omega) | omega)) | with_reducible refine Ext.tr ?_ x1 | with_reducible refine Ext.tr ?_ hext | with_reducible assumption))⟩
  subst e2
  have n2 : (fo == fo) = true := by simp
  by_cases e3 : fs = gs
  rotate_left
  · have n3 : (fs == gs) = false := by simpa using e3
    rw [decide_eq_false (fun h => e3 (by exact h.2.2.2.1))]
    clear CA e3
    go_enter Tryd.func35, Tryd.ntmps35
    go_wp2
    go_ret
    exact ⟨rfl, (by repeat (first | with_reducible exact Ext.refl _ | with_reducible apply Ext.drew | with_reducible apply Ext.drewN | with_reducible apply Ext.alloc | ((with_reducible refine Ext.setCell ?_ ?_ _); rotate_left; focus (first | (simp; done) | (simp; omega) | omega)) | with_reducible refine Ext.tr ?_ x1 | with_reducible refine Ext.tr ?_ hext | with_reducible assumption))⟩
  subst e3
  have n3 : (fs == fs) = true := by simp
  by_cases e4 : ft = gt
  rotate_left
  · have n4 : (ft == gt) = false := by simpa using e4
    rw [decide_eq_false (fun h => e4 (by exact h.2.2.2.2.1))]
    clear CA e4
    go_enter Tryd.func35, Tryd.ntmps35
    go_wp2
    go_ret
    exact ⟨rfl, (by repeat (first | with_reducible exact Ext.refl _ | with_reducible apply Ext.drew | with_reducible apply Ext.drewN | with_reducible apply Ext.alloc | ((with_reducible refine Ext.setCell ?_ ?_ _); rotate_left; focus (first | (simp; done) | (simp; omega) | omega)) | with_reducible refine Ext.tr ?_ x1 | with_reducible refine Ext.tr ?_ hext | with_reducible assumption))⟩
  subst e4
  have n4 : (ft == ft) = true := by simp
  by_cases e5 : fp = gp
  rotate_left
  · have n5 : (fp == gp) = false := by simpa using e5
    rw [decide_eq_false (fun h => e5 (by exact h.2.2.2.2.2.1))]
    clear CA e5
    go_enter Tryd.func35, Tryd.ntmps35
    go_wp2
    go_ret
    exact ⟨rfl, (by repeat (first | with_reducible exact Ext.refl _ | with_reducible apply Ext.drew | with_reducible apply Ext.drewN | with_reducible apply Ext.alloc | ((with_reducible refine Ext.setCell ?_ ?_ _); rotate_left; focus (first | (simp; done) | (simp; omega) | omega)) | with_reducible refine Ext.tr ?_ x1 | with_reducible refine Ext.tr ?_ hext | with_reducible assumption))⟩
  subst e5
  have n5 : (fp == fp) = true := by simp
  by_cases e6 : fc = gc
  rotate_left
  · have n6 : (fc == gc) = false := by simpa using e6
    rw [decide_eq_false (fun h => e6 (by exact h.2.2.2.2.2.2.1))]
    clear CA e6
    go_enter Tryd.func35, Tryd.ntmps35
    go_wp2
    go_ret
    exact ⟨rfl, (by repeat (first | with_reducible exact Ext.refl _ | with_reducible apply Ext.drew | with_reducible apply Ext.drewN | with_reducible apply Ext.alloc | ((with_reducible refine Ext.setCell ?_ ?_ _); rotate_left; focus (first | (simp; done) | (simp; omega) | omega)) | with_reducible refine Ext.tr ?_ x1 | with_reducible refine Ext.tr ?_ hext | with_reducible assumption))⟩
  subst e6
  have n6 : (fc == fc) = true := by simp
  by_cases e7 : fh = gh
  rotate_left
  · have n7 : (fh == gh) = false := by simpa using e7
    rw [decide_eq_false (fun h => e7 (by exact h.2.2.2.2.2.2.2))]
    clear CA e7
    go_enter Tryd.func35, Tryd.ntmps35
    go_wp2
    go_ret
    exact ⟨rfl, (by repeat (first | with_reducible exact Ext.refl _ | with_reducible apply Ext.drew | with_reducible apply Ext.drewN | with_reducible apply Ext.alloc | ((with_reducible refine Ext.setCell ?_ ?_ _); rotate_left; focus (first | (simp; done) | (simp; omega) | omega)) | with_reducible refine Ext.tr ?_ x1 | with_reducible refine Ext.tr ?_ hext | with_reducible assumption))⟩
  subst e7
  have n7 : (fh == fh) = true := by simp
  rw [decide_eq_true (by simp)]
  go_enter Tryd.func35, Tryd.ntmps35
  go_wp2_with (go_at_call 24; refine (CA.out _ (by repeat (first | with_reducible exact Ext.refl _ | with_reducible apply Ext.drew | with_reducible apply Ext.drewN | with_reducible apply Ext.alloc | ((with_reducible refine Ext.setCell ?_ ?_ _); rotate_left; focus (first | (simp; done) | (simp; omega) | omega)) | with_reducible refine Ext.tr ?_ x1 | with_reducible refine Ext.tr ?_ hext | with_reducible assumption))).mono ?_; rintro e w' ⟨rfl, x1⟩)
  go_ret
  exact ⟨rfl, (by repeat (first | with_reducible exact Ext.refl _ | with_reducible apply Ext.drew | with_reducible apply Ext.drewN | with_reducible apply Ext.alloc | ((with_reducible refine Ext.setCell ?_ ?_ _); rotate_left; focus (first | (simp; done) | (simp; omega) | omega)) | with_reducible refine Ext.tr ?_ x1 | with_reducible refine Ext.tr ?_ hext | with_reducible assumption))⟩
theorem layA_eq (f : LayF) (v : Value) : layA f v = #[.int .i64 f.kind, .int .i64 f.inn, .int .i64 f.out, .int .i64 f.size, .int .i64 f.stride, .int .i64 f.pad, .int .i64 f.percent, .int .i64 f.heads, v] := rfl
theorem nineE {w : World} {b o : Nat} {f : LayF} {bv : Value} (h : ∀ j, j < 9 → w.cell? ⟨b, o + j, none⟩ = (layA f bv)[j]?) :
    w.cell? ⟨b, o, none⟩ = some (.int .i64 f.kind) ∧ w.cell? ⟨b, o + 1, none⟩ = some (.int .i64 f.inn) ∧ w.cell? ⟨b, o + 2, none⟩ = some (.int .i64 f.out) ∧ w.cell? ⟨b, o + 3, none⟩ = some (.int .i64 f.size) ∧ w.cell? ⟨b, o + 4, none⟩ = some (.int .i64 f.stride) ∧ w.cell? ⟨b, o + 5, none⟩ = some (.int .i64 f.pad) ∧ w.cell? ⟨b, o + 6, none⟩ = some (.int .i64 f.percent) ∧ w.cell? ⟨b, o + 7, none⟩ = some (.int .i64 f.heads) ∧ w.cell? ⟨b, o + 8, none⟩ = some bv :=
  ⟨h 0 (by omega), h 1 (by omega), h 2 (by omega), h 3 (by omega), h 4 (by omega), h 5 (by omega), h 6 (by omega), h 7 (by omega), h 8 (by omega)⟩
set_option maxHeartbeats 2000000 in
set_option maxRecDepth 100000 in
theorem eqLayers_step (n : Nat) (IH : ∀ m, n = m + 1 → EqOk m) : EqOk n := by
  intro A B v u L w h1 h2
  obtain ⟨a1, c1, rfl⟩ := h1.form
  obtain ⟨a2, c2, rfl⟩ := h2.form
  have hlz : ((L.length : Int) != (L.length : Int)) = false := by simp
  cases n with
  | zero =>
    obtain ⟨rfl, -⟩ := h1
    simp only [List.length_nil] at hlz ⊢
    clear h2 IH hlz
    go_enter Tryd.func24, Tryd.ntmps24
    go_wp2_with fail
    go_loopw [5] (fun i wr => i = .int .i64 0 ∧ wr = w) (fun _ _ => 0)
    case atStart => exact ⟨rfl, rfl⟩
    case round =>
      obtain ⟨rfl, hwr⟩ := hrel
      subst hwr
      go_wp2
      go_ret
      exact ⟨rfl, Ext.refl _⟩
  | succ n =>
    have EL := Lib.hid (fun (A' B' : Nat → Prop) (f g : LayF) (bv bu : Value) (L' : List Lay) (w' : World) (h1 : LaysAt A' w' n bv L') (h2 : LaysAt B' w' n bu L') => eqLayer_of n (IH n rfl) (f := f) (g := g) h1 h2)
    have H1 := Lib.hid h1
    have H2 := Lib.hid h2
    have hm : L.length ≤ maxLen := by obtain ⟨_, _, _, h, _⟩ := h1; exact h
    unfold maxLen at hm
    clear h1 h2 IH
    go_enter Tryd.func24, Tryd.ntmps24
    go_wp2_with fail
    go_loopw [5] (fun i wr => ∃ k : Nat, k ≤ L.length ∧ i = .int .i64 k ∧ Ext w wr) (fun i _ => L.length - (intOf i).toNat)
    case atStart => exact ⟨0, Nat.zero_le _, rfl, Ext.refl _⟩
    case round =>
      obtain ⟨k, hk, rfl, hext⟩ := hrel
      rcases Nat.lt_or_ge k L.length with hlt | hge
      · have hkz : (k : Int) < (L.length : Int) := by omega
        have hk0 : (0 : Int) ≤ (k : Int) := by omega
        obtain ⟨_, _, e1, -, q1⟩ := H1.out
        cases e1
        obtain ⟨b1, o1, rfl, -, r1⟩ := q1 (by intro e; rw [e] at hlt; simp at hlt)
        obtain ⟨bv1, -, t1, s1⟩ := r1 k hlt
        obtain ⟨_, _, e2, -, q2⟩ := H2.out
        cases e2
        obtain ⟨b2, o2, rfl, -, r2⟩ := q2 (by intro e; rw [e] at hlt; simp at hlt)
        obtain ⟨bv2, -, t2, s2⟩ := r2 k hlt
        obtain ⟨y0, y1, y2, y3, y4, y5, y6, y7, y8⟩ := nineE t1
        obtain ⟨z0, z1, z2, z3, z4, z5, z6, z7, z8⟩ := nineE t2
        have CA := Lib.hid (fun u (x : Ext w u) => EL.out _ _ L[k].f L[k].f _ _ _ _ (s1.ext x) (s2.ext x))
        simp only [layA, decide_true] at CA
        generalize L[k].f = f at *
        replace y0 := hext.cell y0
        replace y1 := hext.cell y1
        replace y2 := hext.cell y2
        replace y3 := hext.cell y3
        replace y4 := hext.cell y4
        replace y5 := hext.cell y5
        replace y6 := hext.cell y6
        replace y7 := hext.cell y7
        replace y8 := hext.cell y8
        replace z0 := hext.cell z0
        replace z1 := hext.cell z1
        replace z2 := hext.cell z2
        replace z3 := hext.cell z3
        replace z4 := hext.cell z4
        replace z5 := hext.cell z5
        replace z6 := hext.cell z6
        replace z7 := hext.cell z7
        replace z8 := hext.cell z8
        have zb1 := cell_lt y0
        have zb2 := cell_lt z0
        simp only at zb1 zb2
        clear q1 r1 t1 s1 q2 r2 t2 s2 H1 H2 EL
        go_wp2_with fail
        go_still_tail 8, (by kernel_rfl)
        have XD : Ext w wr.drew := hext.drew
        change wpList _ _ _ _ _ wr.drew
        generalize wr.drew = w2 at *
        go_wp2_with (go_at_call 35; refine (CA.out _ XD).mono ?_; rintro e w' ⟨rfl, x1⟩)
        exact ⟨⟨k + 1, by omega, by go_num, XD.tr x1⟩, by simp [intOf]; omega⟩
      · have hkz : ¬ (k : Int) < (L.length : Int) := by omega
        clear H1 H2 EL
        go_wp2
        go_ret
        exact ⟨rfl, hext⟩
theorem eqLayers_any : ∀ n, EqOk n
  | 0 => eqLayers_step 0 (fun _ h => by omega)
  | n + 1 => eqLayers_step (n + 1) (fun m h => by have e : m = n := by omega
                                                  rw [e]; exact eqLayers_any n)
end Go.Proofs.YtgokenbojppnhaaDoor
