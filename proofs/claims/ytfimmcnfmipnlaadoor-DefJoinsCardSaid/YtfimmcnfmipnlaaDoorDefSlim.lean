/- A definition that is not heavy has short lists of layers. -/
import Derived.Test.YtfimmcnfmipnlaaDoorDefHeavy
import Derived.Test.YtfimmcnfmipnlaaDoorDefCopy
import Derived.Test.YtfimmcnfmipnlaaDoorDTexts
import Derived.Test.YtfimmcnfmipnlaaDoorIntsB
namespace Go.Proofs.YtfimmcnfmipnlaaDoor
open Go.RowKit
theorem own_set3 {w : World} {base b o : Nat} {e : TypeId} {v u : Value} {n : Nat} {xs : List Value} (h : w.ownsRow base e 1 v n xs) (hb : b < base) : (w.setCell ⟨b, o, none⟩ u).ownsRow base e 1 v n xs := ownsRow_setCell_below h hb _
mutual
theorem weigh_ge : ∀ (l : Lay) {deep n : Nat}, n < 1000 → n + 1 ≤ l.weigh deep n
  | .mk f b, deep, n, h => by
    rw [Lay.weigh]
    split
    · omega
    · exact weighs_ge b
theorem weighs_ge : ∀ (L : List Lay) {deep n : Nat}, n ≤ weighS deep n L
  | [], deep, n => by rw [weighS]; exact Nat.le_refl _
  | l :: ls, deep, n => by
    rw [weighS]
    split
    · rename_i h
      exact Nat.le_trans (by have := weigh_ge l (deep := deep) h; omega) (weighs_ge ls)
    · exact Nat.le_refl _
end
theorem weighs_slim : ∀ (L : List Lay) {deep n : Nat}, weighS deep n L < 1000 → L.length + n ≤ weighS deep n L ∧ ∀ l ∈ L, ∃ d m, weighS d m l.b < 1000
  | [], deep, n, h => ⟨by rw [weighS]; simp, fun l hl => by simp at hl⟩
  | l :: ls, deep, n, h => by
    rw [weighS] at h ⊢
    by_cases h1 : n < 1000
    · rw [if_pos h1] at h ⊢
      obtain ⟨i1, i2⟩ := weighs_slim ls h
      have g1 := weigh_ge l (deep := deep) h1
      have g2 := weighs_ge ls (deep := deep) (n := l.weigh deep n)
      refine ⟨by simp only [List.length_cons]; omega, fun x hx => ?_⟩
      rcases List.mem_cons.1 hx with rfl | hx
      · rw [weigh_eq] at g2
        have g3 := Nat.lt_of_le_of_lt g2 (by rw [← weigh_eq]; exact h)
        unfold weightS at g3
        split at g3
        · omega
        · exact ⟨_, _, g3⟩
      · exact i2 x hx
    · rw [if_neg h1] at h
      exact absurd h h1
theorem slim_of : ∀ (n : Nat) {L : List Lay} {d m : Nat}, weighS d m L < 1000 → Slim n L
  | 0, _, _, _, _ => trivial
  | n + 1, L, d, m, h => by
    obtain ⟨h1, h2⟩ := weighs_slim L h
    refine ⟨by omega, fun l hl => ?_⟩
    obtain ⟨d', m', h3⟩ := h2 l hl
    exact slim_of n h3
theorem heavy_slim {d : DefL} (h : heavyS d = false) (n : Nat) : Slim n d.layers ∧ d.input.length ≤ 10 := by
  unfold heavyS at h
  simp only [Bool.or_eq_false_iff, decide_eq_false_iff_not] at h
  refine ⟨?_, by omega⟩
  have h2 := h.2
  unfold weightS at h2
  exact slim_of n (d := 0) (m := 0) (by
    rw [if_neg (by omega)] at h2
    omega)
theorem MyLays.left {A : Nat → Prop} {w : World} {n : Nat} {v : Value} {L : List Lay} (h : MyLays A w n v L) : LaysAt A w n v L := h.1
theorem copyLayers_any : ∀ n, CopyOk n
  | 0 => copyLayers_step 0 (fun _ h => by omega)
  | n + 1 => copyLayers_step (n + 1) (fun m h => by
    have e : m = n := by omega
    rw [e]; exact copyLayers_any n)
set_option maxHeartbeats 2000000 in
set_option maxRecDepth 100000 in
theorem copyDef_any {A : Nat → Prop} {n : Nat} {w : World} {v : Value} {d : DefL} (h : DefAt A n w v d) (hs : Slim n d.layers) (hl : d.input.length ≤ 1000) :
    Calls Tryd.prog 11 #[v] w fun e w' => ∃ dv, e = .returned dv ∧ Ext w w' ∧ DefAt (fun b => w.heap.size ≤ b ∧ b < w'.heap.size) n w' dv d := by
  obtain ⟨a1, c1, a2, c2, rfl, hi, hly⟩ := h.is
  have CN := Lib.hid (fun u (x : Ext w u) => copyN_any (hi.ext x) (show d.input.length ≤ 1000000 by omega))
  have CA := Lib.hid (fun u (x : Ext w u) => copyLayers_any n _ _ _ _ (hly.ext x) hs)
  clear h hs hi hly
  go_enter Tryd.func11, Tryd.ntmps11
  go_wp2_with fail; refine (CN.out _ (by repeat (first | with_reducible exact Ext.refl _ | with_reducible apply Ext.drew | with_reducible apply Ext.drewN | with_reducible apply Ext.alloc | ((with_reducible refine Ext.setCell ?_ ?_ _); rotate_left; focus (first | (simp; done) | (simp; omega) | omega)) | with_reducible refine Ext.tr ?_ x1 | with_reducible refine Ext.tr ?_ x2 | with_reducible refine Ext.tr ?_ hx | with_reducible assumption))).mono ?_; rintro e v1 ⟨s1, rfl, x1, h1⟩; obtain ⟨c1, f1⟩ := x1.rules; have z1 := x1.size; have k1_0_0 := c1 (w.heap.size) 0 (by first | (simp; done) | (simp; omega) | omega); have q1_0_0 := f1 (w.heap.size) 0 (by first | (simp; done) | (simp; omega) | omega); have k1_0_1 := c1 (w.heap.size) 1 (by first | (simp; done) | (simp; omega) | omega); have q1_0_1 := f1 (w.heap.size) 1 (by first | (simp; done) | (simp; omega) | omega); have k1_0_2 := c1 (w.heap.size) 2 (by first | (simp; done) | (simp; omega) | omega); have q1_0_2 := f1 (w.heap.size) 2 (by first | (simp; done) | (simp; omega) | omega); have k1_1_0 := c1 (w.heap.size + 1) 0 (by first | (simp; done) | (simp; omega) | omega); have q1_1_0 := f1 (w.heap.size + 1) 0 (by first | (simp; done) | (simp; omega) | omega); have k1_1_1 := c1 (w.heap.size + 1) 1 (by first | (simp; done) | (simp; omega) | omega); have q1_1_1 := f1 (w.heap.size + 1) 1 (by first | (simp; done) | (simp; omega) | omega); have k1_1_2 := c1 (w.heap.size + 1) 2 (by first | (simp; done) | (simp; omega) | omega); have q1_1_2 := f1 (w.heap.size + 1) 2 (by first | (simp; done) | (simp; omega) | omega); have k1_2_0 := c1 (w.heap.size + 2) 0 (by first | (simp; done) | (simp; omega) | omega); have q1_2_0 := f1 (w.heap.size + 2) 0 (by first | (simp; done) | (simp; omega) | omega); have k1_2_1 := c1 (w.heap.size + 2) 1 (by first | (simp; done) | (simp; omega) | omega); have q1_2_1 := f1 (w.heap.size + 2) 1 (by first | (simp; done) | (simp; omega) | omega); have k1_2_2 := c1 (w.heap.size + 2) 2 (by first | (simp; done) | (simp; omega) | omega); have q1_2_2 := f1 (w.heap.size + 2) 2 (by first | (simp; done) | (simp; omega) | omega); have z1_0 : w.heap.size < v1.heap.size := (by (try simp at z1); omega); have z1_1 : w.heap.size + 1 < v1.heap.size := (by (try simp at z1); omega); have z1_2 : w.heap.size + 2 < v1.heap.size := (by (try simp at z1); omega); (try simp at z1); clear c1 f1; simp [go_sem, *] at k1_0_0 q1_0_0 k1_0_1 q1_0_1 k1_0_2 q1_0_2 k1_1_0 q1_1_0 k1_1_1 q1_1_1 k1_1_2 q1_1_2 k1_2_0 q1_2_0 k1_2_1 q1_2_1 k1_2_2 q1_2_2
  obtain ⟨a3, c3, rfl⟩ := own_form0 h1
  have H1 := Lib.hid h1
  clear h1 CN
  go_wp2_with fail; refine (CA.out _ (by repeat (first | with_reducible exact Ext.refl _ | with_reducible apply Ext.drew | with_reducible apply Ext.drewN | with_reducible apply Ext.alloc | ((with_reducible refine Ext.setCell ?_ ?_ _); rotate_left; focus (first | (simp; done) | (simp; omega) | omega)) | with_reducible refine Ext.tr ?_ x1 | with_reducible refine Ext.tr ?_ x2 | with_reducible refine Ext.tr ?_ hx | with_reducible assumption))).mono ?_; rintro e v2 ⟨l2, rfl, x2, h2⟩; obtain ⟨c2, f2⟩ := x2.rules; have z2 := x2.size; have k2_0_0 := c2 (w.heap.size) 0 (by first | (simp; done) | (simp; omega) | omega); have q2_0_0 := f2 (w.heap.size) 0 (by first | (simp; done) | (simp; omega) | omega); have k2_0_1 := c2 (w.heap.size) 1 (by first | (simp; done) | (simp; omega) | omega); have q2_0_1 := f2 (w.heap.size) 1 (by first | (simp; done) | (simp; omega) | omega); have k2_0_2 := c2 (w.heap.size) 2 (by first | (simp; done) | (simp; omega) | omega); have q2_0_2 := f2 (w.heap.size) 2 (by first | (simp; done) | (simp; omega) | omega); have k2_1_0 := c2 (w.heap.size + 1) 0 (by first | (simp; done) | (simp; omega) | omega); have q2_1_0 := f2 (w.heap.size + 1) 0 (by first | (simp; done) | (simp; omega) | omega); have k2_1_1 := c2 (w.heap.size + 1) 1 (by first | (simp; done) | (simp; omega) | omega); have q2_1_1 := f2 (w.heap.size + 1) 1 (by first | (simp; done) | (simp; omega) | omega); have k2_1_2 := c2 (w.heap.size + 1) 2 (by first | (simp; done) | (simp; omega) | omega); have q2_1_2 := f2 (w.heap.size + 1) 2 (by first | (simp; done) | (simp; omega) | omega); have k2_2_0 := c2 (w.heap.size + 2) 0 (by first | (simp; done) | (simp; omega) | omega); have q2_2_0 := f2 (w.heap.size + 2) 0 (by first | (simp; done) | (simp; omega) | omega); have k2_2_1 := c2 (w.heap.size + 2) 1 (by first | (simp; done) | (simp; omega) | omega); have q2_2_1 := f2 (w.heap.size + 2) 1 (by first | (simp; done) | (simp; omega) | omega); have k2_2_2 := c2 (w.heap.size + 2) 2 (by first | (simp; done) | (simp; omega) | omega); have q2_2_2 := f2 (w.heap.size + 2) 2 (by first | (simp; done) | (simp; omega) | omega); have z2_0 : w.heap.size < v2.heap.size := (by (try simp at z2); omega); have z2_1 : w.heap.size + 1 < v2.heap.size := (by (try simp at z2); omega); have z2_2 : w.heap.size + 2 < v2.heap.size := (by (try simp at z2); omega); (try simp at z2); clear c2 f2; simp [go_sem, *] at k2_0_0 q2_0_0 k2_0_1 q2_0_1 k2_0_2 q2_0_2 k2_1_0 q2_1_0 k2_1_1 q2_1_1 k2_1_2 q2_1_2 k2_2_0 q2_2_0 k2_2_1 q2_2_1 k2_2_2 q2_2_2
  obtain ⟨a4, c4, rfl⟩ := h2.form
  have XW : Hid (Ext w v2) := Lib.hid (by repeat (first | with_reducible exact Ext.refl _ | with_reducible apply Ext.drew | with_reducible apply Ext.drewN | with_reducible apply Ext.alloc | ((with_reducible refine Ext.setCell ?_ ?_ _); rotate_left; focus (first | (simp; done) | (simp; omega) | omega)) | with_reducible refine Ext.tr ?_ x1 | with_reducible refine Ext.tr ?_ x2 | with_reducible refine Ext.tr ?_ hx | with_reducible assumption))
  have z2' : v1.heap.size ≤ v2.heap.size := by have := x2.size; simp at this; exact this
  have A1 := Lib.hid (own_old (own_set3 (b := w.heap.size + 1 + 1) (o := 0) (u := .slice a3 d.input.length c3) (own_base H1.out (base' := w.heap.size + 1 + 1 + 1) (by simp)) (by omega)) x2)
  have A2 := Lib.hid (show MyLays (fun b => w.heap.size + 1 + 1 + 1 ≤ b ∧ b < v2.heap.size) v2 n (.slice a4 d.layers.length c4) d.layers from h2.mono (fun b hb => ⟨by have := hb.1; simp at this; omega, hb.2⟩))
  clear H1 h2 CA x1 x2
  go_wp2
  simp [bodyPost, results, Tryd.results11, go_sem, *]
  refine ⟨?_, ?_⟩
  · have xw := XW.out
    exact (by repeat (first | with_reducible exact Ext.refl _ | with_reducible apply Ext.drew | with_reducible apply Ext.drewN | with_reducible apply Ext.alloc | ((with_reducible refine Ext.setCell ?_ ?_ _); rotate_left; focus (first | (simp; done) | (simp; omega) | omega)) | with_reducible refine Ext.tr ?_ x1 | with_reducible refine Ext.tr ?_ x2 | with_reducible refine Ext.tr ?_ hx | with_reducible assumption))
  · refine ⟨⟨_, _, _, _, rfl, (RowV.of_owns (base := w.heap.size + 1 + 1 + 1) (e := 3) (n := d.input.length) ?_).ints, ?_⟩, fun b hb => by have := hb.2; simpa using this⟩
    · repeat (first | with_reducible exact A1.out | with_reducible refine own_set3 ?_ (by omega))
    · refine LaysAt.mono (A := fun b => w.heap.size + 1 + 1 + 1 ≤ b ∧ b < v2.heap.size) (MyLays.left ?_) (fun b hb => ⟨by have := hb.1; omega, by have := hb.2; simpa using this⟩)
      repeat (first | with_reducible exact A2.out | with_reducible refine MyLays.set ?_ (by omega))
end Go.Proofs.YtfimmcnfmipnlaaDoor
