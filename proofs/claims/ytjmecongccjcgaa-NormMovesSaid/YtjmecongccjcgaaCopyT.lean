/- ratchetref0.CopyTensor, EqTensor. -/
import Derived.Test.YtjmecongccjcgaaTens
import Derived.Test.YtjmecongccjcgaaClones
import Derived.Test.YtjmecongccjcgaaIntsB
import Derived.Test.YtjmecongccjcgaaNormCk
import Derived.Deep.AppendLies
namespace Go.Proofs.Ytjmecongccjcgaa
open Go.RowKit
attribute [local go_sem ↓] Go.wp_at_zero Go.wp_at_succ
/-- A tensor in new memory. -/
structure TenNew (base : Nat) (w : World) (s d : Value) (xs ds : List Int) : Prop where
  rs : w.ownsRow base 3 1 s xs.length (xs.map (Value.int .i64))
  rd : w.ownsRow base 2 1 d ds.length (ds.map (Value.int .i64))
  ap : ∀ b, s.ownBlock = some b → d.ownBlock ≠ some b
theorem own_set2 {w : World} {base b o : Nat} {e : TypeId} {v u : Value} {n : Nat} {xs : List Value} (h : w.ownsRow base e 1 v n xs) (hb : b < base) : (w.setCell ⟨b, o, none⟩ u).ownsRow base e 1 v n xs := ownsRow_setCell_below h hb _
set_option maxHeartbeats 2000000 in
set_option maxRecDepth 100000 in
theorem copyT_any {s d : Value} {xs ds : List Int} {w : World} (hs : Row .i64 w s xs) (hd : Row .i64 w d ds) (l1 : xs.length ≤ 1000000) (l2 : ds.length ≤ 1000000) :
    Calls Try.prog 21 #[.agg #[s, d]] w fun e w' => ∃ s' d', e = .returned (.agg #[s', d']) ∧ Ext w w' ∧ TenNew (w.heap.size + 1 + 1 + 1) w' s' d' xs ds := by
  have CN := Lib.hid (fun u (x : Ext w u) => copyN_any (hs.ext x) l1)
  have CW := Lib.hid (fun u (x : Ext w u) => copyW_any (hd.ext x) l2)
  obtain ⟨a, ca, rfl, la⟩ := hs.form'
  obtain ⟨b, cb, rfl, lb⟩ := hd.form'
  clear hs hd
  go_enter Try.func21, Try.ntmps21
  go_wp2_with fail; refine (CN.out _ (by repeat (first | with_reducible exact Ext.refl _ | with_reducible apply Ext.drew | with_reducible apply Ext.drewN | with_reducible apply Ext.alloc | ((with_reducible refine Ext.setCell ?_ ?_ _); rotate_left; focus (first | (simp; done) | (simp; omega) | omega)) | with_reducible refine Ext.tr ?_ x1 | with_reducible refine Ext.tr ?_ x2 | with_reducible assumption))).mono ?_; rintro e v1 ⟨s1, rfl, x1, h1⟩; obtain ⟨c1, f1⟩ := x1.rules; have z1 := x1.size; have k1_0_0 := c1 (w.heap.size) 0 (by first | (simp; done) | (simp; omega) | omega); have q1_0_0 := f1 (w.heap.size) 0 (by first | (simp; done) | (simp; omega) | omega); have k1_0_1 := c1 (w.heap.size) 1 (by first | (simp; done) | (simp; omega) | omega); have q1_0_1 := f1 (w.heap.size) 1 (by first | (simp; done) | (simp; omega) | omega); have k1_1_0 := c1 (w.heap.size + 1) 0 (by first | (simp; done) | (simp; omega) | omega); have q1_1_0 := f1 (w.heap.size + 1) 0 (by first | (simp; done) | (simp; omega) | omega); have k1_1_1 := c1 (w.heap.size + 1) 1 (by first | (simp; done) | (simp; omega) | omega); have q1_1_1 := f1 (w.heap.size + 1) 1 (by first | (simp; done) | (simp; omega) | omega); have k1_2_0 := c1 (w.heap.size + 2) 0 (by first | (simp; done) | (simp; omega) | omega); have q1_2_0 := f1 (w.heap.size + 2) 0 (by first | (simp; done) | (simp; omega) | omega); have k1_2_1 := c1 (w.heap.size + 2) 1 (by first | (simp; done) | (simp; omega) | omega); have q1_2_1 := f1 (w.heap.size + 2) 1 (by first | (simp; done) | (simp; omega) | omega); have z1_0 : w.heap.size < v1.heap.size := (by (try simp at z1); omega); have z1_1 : w.heap.size + 1 < v1.heap.size := (by (try simp at z1); omega); have z1_2 : w.heap.size + 2 < v1.heap.size := (by (try simp at z1); omega); (try simp at z1); clear c1 f1; simp [go_sem, *] at k1_0_0 q1_0_0 k1_0_1 q1_0_1 k1_1_0 q1_1_0 k1_1_1 q1_1_1 k1_2_0 q1_2_0 k1_2_1 q1_2_1
  obtain ⟨a1, c1, rfl, -⟩ := Row.form' (Row.of_owns h1).1
  have H1 := Lib.hid h1
  clear h1 CN
  go_wp2_with fail; refine (CW.out _ (by repeat (first | with_reducible exact Ext.refl _ | with_reducible apply Ext.drew | with_reducible apply Ext.drewN | with_reducible apply Ext.alloc | ((with_reducible refine Ext.setCell ?_ ?_ _); rotate_left; focus (first | (simp; done) | (simp; omega) | omega)) | with_reducible refine Ext.tr ?_ x1 | with_reducible refine Ext.tr ?_ x2 | with_reducible assumption))).mono ?_; rintro e v2 ⟨d2, rfl, x2, h2⟩; obtain ⟨c2, f2⟩ := x2.rules; have z2 := x2.size; have k2_0_0 := c2 (w.heap.size) 0 (by first | (simp; done) | (simp; omega) | omega); have q2_0_0 := f2 (w.heap.size) 0 (by first | (simp; done) | (simp; omega) | omega); have k2_0_1 := c2 (w.heap.size) 1 (by first | (simp; done) | (simp; omega) | omega); have q2_0_1 := f2 (w.heap.size) 1 (by first | (simp; done) | (simp; omega) | omega); have k2_1_0 := c2 (w.heap.size + 1) 0 (by first | (simp; done) | (simp; omega) | omega); have q2_1_0 := f2 (w.heap.size + 1) 0 (by first | (simp; done) | (simp; omega) | omega); have k2_1_1 := c2 (w.heap.size + 1) 1 (by first | (simp; done) | (simp; omega) | omega); have q2_1_1 := f2 (w.heap.size + 1) 1 (by first | (simp; done) | (simp; omega) | omega); have k2_2_0 := c2 (w.heap.size + 2) 0 (by first | (simp; done) | (simp; omega) | omega); have q2_2_0 := f2 (w.heap.size + 2) 0 (by first | (simp; done) | (simp; omega) | omega); have k2_2_1 := c2 (w.heap.size + 2) 1 (by first | (simp; done) | (simp; omega) | omega); have q2_2_1 := f2 (w.heap.size + 2) 1 (by first | (simp; done) | (simp; omega) | omega); have z2_0 : w.heap.size < v2.heap.size := (by (try simp at z2); omega); have z2_1 : w.heap.size + 1 < v2.heap.size := (by (try simp at z2); omega); have z2_2 : w.heap.size + 2 < v2.heap.size := (by (try simp at z2); omega); (try simp at z2); clear c2 f2; simp [go_sem, *] at k2_0_0 q2_0_0 k2_0_1 q2_0_1 k2_1_0 q2_1_0 k2_1_1 q2_1_1 k2_2_0 q2_2_0 k2_2_1 q2_2_1
  obtain ⟨a2, c2, rfl, -⟩ := Row.form' (Row.of_owns h2).1
  have H2 := Lib.hid h2
  clear h2 CW
  have XW : Hid (Ext w v2) := Lib.hid (by repeat (first | with_reducible exact Ext.refl _ | with_reducible apply Ext.drew | with_reducible apply Ext.drewN | with_reducible apply Ext.alloc | ((with_reducible refine Ext.setCell ?_ ?_ _); rotate_left; focus (first | (simp; done) | (simp; omega) | omega)) | with_reducible refine Ext.tr ?_ x1 | with_reducible refine Ext.tr ?_ x2 | with_reducible assumption))
  have z2' : v1.heap.size ≤ v2.heap.size := by have := x2.size; simp at this; exact this
  have A1 := Lib.hid (own_old (own_set2 (b := w.heap.size + 1 + 1) (o := 0) (u := .slice a1 xs.length c1) (own_base H1.out (base' := w.heap.size + 1 + 1 + 1) (by simp)) (by omega)) x2)
  have A2 := Lib.hid (own_base H2.out (base' := v1.heap.size) (by simp))
  have L1 := Lib.hid H1.out.lt
  clear H1 H2
  go_wp2
  simp [bodyPost, results, Try.results21, go_sem, *]
  refine ⟨_, _, ⟨rfl, rfl⟩, ((XW.out.setCell (by simp <;> omega) _).setCell (by simp) _).setCell (by simp) _, ?_, ?_, ?_⟩
  · exact own_set2 (own_set2 (own_set2 A1.out (by omega)) (by omega)) (by omega)
  · exact own_base (own_set2 (own_set2 (own_set2 A2.out (by omega)) (by omega)) (by omega)) (by omega)
  · intro b h1 h2
    have := (L1.out b h1).2
    have := (A2.out.lt b h2).1
    omega
theorem TenNew.row_s {base : Nat} {w : World} {s d : Value} {xs ds : List Int} (h : TenNew base w s d xs ds) : Row .i64 w s xs := (Row.of_owns h.rs).1
theorem TenNew.row_d {base : Nat} {w : World} {s d : Value} {xs ds : List Int} (h : TenNew base w s d xs ds) : Row .i64 w d ds := (Row.of_owns h.rd).1
theorem TenNew.ext {base : Nat} {w w' : World} {s d : Value} {xs ds : List Int} (h : TenNew base w s d xs ds) (x : Ext w w') : TenNew base w' s d xs ds := ⟨own_old h.rs x, own_old h.rd x, h.ap⟩
theorem TenNew.base {base base' : Nat} {w : World} {s d : Value} {xs ds : List Int} (h : TenNew base w s d xs ds) (hb : base' ≤ base) : TenNew base' w s d xs ds := ⟨own_base h.rs hb, own_base h.rd hb, h.ap⟩
theorem TenNew.set {base b o : Nat} {w : World} {s d u : Value} {xs ds : List Int} (h : TenNew base w s d xs ds) (hb : b < base) : TenNew base (w.setCell ⟨b, o, none⟩ u) s d xs ds := ⟨own_set2 h.rs hb, own_set2 h.rd hb, h.ap⟩
set_option maxHeartbeats 1000000 in
theorem eqT_any {s d s' d' : Value} {xs ds ys es : List Int} {w : World} (hs : Row .i64 w s xs) (hd : Row .i64 w d ds) (hs' : Row .i64 w s' ys) (hd' : Row .i64 w d' es) :
    Calls Try.prog 15 #[.agg #[s, d], .agg #[s', d']] w fun e w' => e = .returned (.bool (decide (xs = ys ∧ ds = es))) ∧ Ext w w' := by
  have EN := Lib.hid (fun u (x : Ext w u) => eqNumbers_any (hs.ext x) (hs'.ext x))
  have EW := Lib.hid (fun u (x : Ext w u) => eqWords_any (hd.ext x) (hd'.ext x))
  obtain ⟨a, ca, rfl, la⟩ := hs.form'
  obtain ⟨b, cb, rfl, lb⟩ := hd.form'
  obtain ⟨a', ca', rfl, la'⟩ := hs'.form'
  obtain ⟨b', cb', rfl, lb'⟩ := hd'.form'
  clear hs hd hs' hd'
  by_cases h : xs = ys
  · have E := Lib.hid (show decide (xs = ys ∧ ds = es) = decide (ds = es) by simp [h])
    rw [show decide (xs = ys) = true by simpa using h] at EN
    clear h
    go_enter Try.func15, Try.ntmps15
    go_wp2_with fail
    refine (EN.out _ (by repeat (first | with_reducible exact Ext.refl _ | with_reducible apply Ext.drew | with_reducible apply Ext.drewN | with_reducible apply Ext.alloc | ((with_reducible refine Ext.setCell ?_ ?_ _); rotate_left; focus (first | (simp; done) | (simp; omega) | omega)) | with_reducible refine Ext.tr ?_ x1 | with_reducible refine Ext.tr ?_ x2 | with_reducible assumption))).mono ?_
    rintro e w' ⟨rfl, n1, rfl⟩
    go_wp2_with fail
    refine (EW.out _ (by repeat (first | with_reducible exact Ext.refl _ | with_reducible apply Ext.drew | with_reducible apply Ext.drewN | with_reducible apply Ext.alloc | ((with_reducible refine Ext.setCell ?_ ?_ _); rotate_left; focus (first | (simp; done) | (simp; omega) | omega)) | with_reducible refine Ext.tr ?_ x1 | with_reducible refine Ext.tr ?_ x2 | with_reducible assumption))).mono ?_
    rintro e w' ⟨rfl, n2, rfl⟩
    go_wp2
    go_ret
    exact ⟨by rw [E.out]; rfl, (by repeat (first | with_reducible exact Ext.refl _ | with_reducible apply Ext.drew | with_reducible apply Ext.drewN | with_reducible apply Ext.alloc | ((with_reducible refine Ext.setCell ?_ ?_ _); rotate_left; focus (first | (simp; done) | (simp; omega) | omega)) | with_reducible refine Ext.tr ?_ x1 | with_reducible refine Ext.tr ?_ x2 | with_reducible assumption))⟩
  · have E := Lib.hid (show decide (xs = ys ∧ ds = es) = false by simp [h])
    rw [show decide (xs = ys) = false by simpa using h] at EN
    clear h
    go_enter Try.func15, Try.ntmps15
    go_wp2_with fail
    refine (EN.out _ (by repeat (first | with_reducible exact Ext.refl _ | with_reducible apply Ext.drew | with_reducible apply Ext.drewN | with_reducible apply Ext.alloc | ((with_reducible refine Ext.setCell ?_ ?_ _); rotate_left; focus (first | (simp; done) | (simp; omega) | omega)) | with_reducible refine Ext.tr ?_ x1 | with_reducible refine Ext.tr ?_ x2 | with_reducible assumption))).mono ?_
    rintro e w' ⟨rfl, n1, rfl⟩
    go_wp2
    go_ret
    exact ⟨by rw [E.out]; rfl, (by repeat (first | with_reducible exact Ext.refl _ | with_reducible apply Ext.drew | with_reducible apply Ext.drewN | with_reducible apply Ext.alloc | ((with_reducible refine Ext.setCell ?_ ?_ _); rotate_left; focus (first | (simp; done) | (simp; omega) | omega)) | with_reducible refine Ext.tr ?_ x1 | with_reducible refine Ext.tr ?_ x2 | with_reducible assumption))⟩
theorem eqT_same {s d s' d' : Value} {xs ds : List Int} {w : World} (hs : Row .i64 w s xs) (hd : Row .i64 w d ds) (hs' : Row .i64 w s' xs) (hd' : Row .i64 w d' ds) :
    Calls Try.prog 15 #[.agg #[s, d], .agg #[s', d']] w fun e w' => e = .returned (.bool true) ∧ Ext w w' :=
  (eqT_any hs hd hs' hd').mono (by rintro e w' ⟨rfl, x⟩; exact ⟨by simp, x⟩)
/-- Integers, and what lies behind them in the block. -/
def tl (l : List Int) (rest : List Value) : Array Value := (l.map (Value.int .i64) ++ rest).toArray
theorem tl_at {l : List Int} (rest : List Value) {i : Nat} (h : i < l.length) : (tl l rest)[i]? = some (.int .i64 (l.getD i 0)) := by
  unfold tl
  rw [List.getElem?_toArray, List.getElem?_append_left (by rw [List.length_map]; exact h), List.getElem?_map, List.getElem?_eq_getElem h, List.getD_eq_getElem?_getD, List.getElem?_eq_getElem h]
  rfl
theorem tl_set {l : List Int} (rest : List Value) {i : Nat} (h : i < l.length) (x : Int) : (tl l rest).setIfInBounds i (.int .i64 x) = tl (l.set i x) rest := by
  unfold tl
  rw [List.setIfInBounds_toArray, List.set_append_left _ _ (by rw [List.length_map]; exact h), List.map_set]
theorem own_tl {w : World} {base g n c : Nat} {t : TypeId} {l : List Int} (h : w.ownsRow base t 1 (.slice (some ⟨g, 0, none⟩) n c) n (l.map (Value.int .i64))) : ∃ rest, Blk w g t (tl l rest) ∧ l.length = n ∧ n + rest.length = c ∧ c ≤ maxLen ∧ base ≤ g := by
  have hl := (Row.of_owns h).2
  obtain ⟨cur, hb, hs, h1, h2, h3, h4⟩ := own_cur h
  refine ⟨cur.toList.drop n, ?_, hl, by rw [List.length_drop, Array.length_toList]; omega, h2, h4⟩
  have e : tl l (cur.toList.drop n) = cur := by
    unfold tl
    rw [← h3, List.take_append_drop]
  rw [e]; exact hb
theorem Row.of_tl {w : World} {g : Nat} {t : TypeId} {l : List Int} {rest : List Value} {n c : Nat} (h : Blk w g t (tl l rest)) (hl : l.length = n) (hc : n + rest.length = c) (hm : c ≤ maxLen) : Row .i64 w (.slice (some ⟨g, 0, none⟩) n c) l := by
  subst hl
  refine ⟨_, c, rfl, by omega, hm, fun _ => ⟨g, 0, rfl, fun i hi => ?_⟩⟩
  rw [Nat.zero_add, h.cell, tl_at rest hi]
theorem slice_some {w : World} {d : Value} {l : List Int} {base n : Nat} {t : TypeId} (h : w.ownsRow base t 1 d n (l.map (Value.int .i64))) (h0 : 0 < n) : ∃ g c, d = .slice (some ⟨g, 0, none⟩) n c := by
  obtain ⟨g, c, e, -⟩ := World.ownsRow.form h h0
  exact ⟨g, c, e⟩
end Go.Proofs.Ytjmecongccjcgaa
