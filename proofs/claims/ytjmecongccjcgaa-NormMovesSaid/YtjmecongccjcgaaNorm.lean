/- norm.Norm. -/
import Derived.Test.YtjmecongccjcgaaNormCk
import Derived.Test.YtjmecongccjcgaaNormWord
import Derived.Test.YtjmecongccjcgaaRowsIt
import Derived.Test.YtjmecongccjcgaaRndReg
import Derived.Test.YtjmecongccjcgaaWFxFrom
namespace Go.Proofs.Ytjmecongccjcgaa
open Go.RowKit Go.Shelf
attribute [local go_sem] Oper.semAt_some
/-- The first q words are normed, row by row of n words. -/
def NormTo (ds : List Int) (n : Nat) (eps f : Int) (zs : List Int) (q : Nat) : Prop :=
  ∀ i, i < q → IsNorm (fun t => ds.getD (i / n * n + t) 0) n eps f (i % n) (zs.getD i 0)
theorem NormTo.step {ds zs : List Int} {n : Nat} {eps f z : Int} {j k : Nat} (h : NormTo ds n eps f zs (j * n + k)) (hk : k < n) (hz : j * n + k < zs.length) (H : IsNorm (fun t => ds.getD (j * n + t) 0) n eps f k z) : NormTo ds n eps f (zs.set (j * n + k) z) (j * n + k + 1) := by
  intro i hi
  rcases Nat.lt_succ_iff_lt_or_eq.1 hi with h1 | rfl
  · have e : (zs.set (j * n + k) z).getD i 0 = zs.getD i 0 := by
      rw [List.getD_eq_getElem?_getD, List.getD_eq_getElem?_getD, List.getElem?_set_ne (by omega)]
    rw [e]; exact h i h1
  · have e : (zs.set (j * n + k) z).getD (j * n + k) 0 = z := by
      rw [List.getD_eq_getElem?_getD, List.getElem?_set_self hz]; rfl
    have e1 : (j * n + k) / n = j := by rw [Nat.add_comm, Nat.add_mul_div_right _ _ (by omega), Nat.div_eq_of_lt hk]; omega
    have e2 : (j * n + k) % n = k := by rw [Nat.add_comm, Nat.add_mul_mod_self_right, Nat.mod_eq_of_lt hk]
    rw [e, e1, e2]; exact H
/-- What Norm's own blocks hold: the tensor, eps, f, the results' rooms, the new tensor, its shape, its words. -/
structure NormLoc (w W : World) (U g1 g2 : Nat) (s d : Value) (cur : Array Value) (l1 c1 n2 : Nat) (zs : List Int) (eps f : Int) : Prop where
  bt : Blk W w.heap.size 26 #[s, d]
  be : Blk W (w.heap.size + 1) 2 #[.int .i64 eps]
  bf : Blk W (w.heap.size + 1 + 1) 3 #[.int .i64 f]
  br : Blk W (w.heap.size + 1 + 1 + 1) 26 #[.slice none 0 0, .slice none 0 0]
  bo : Blk W (w.heap.size + 1 + 1 + 1 + 1) 40 #[.int .i64 0]
  bu : Blk W U 26 #[.slice (some ⟨g1, 0, none⟩) l1 c1, .slice (some ⟨g2, 0, none⟩) n2 n2]
  b1 : Blk W g1 3 cur
  b2 : Blk W g2 2 (ints zs)
section
variable {w W W' : World} {U g1 g2 : Nat} {s d : Value} {cur : Array Value} {l1 c1 n2 : Nat} {zs : List Int} {eps f : Int}
theorem NormLoc.kept (h : NormLoc w W U g1 g2 s d cur l1 c1 n2 zs eps f) {row : Option Nat} (hb : W.grownBy W' row) (hrow : ∀ r, row = some r → ∃ o : Obj, W.heap[r]? = some o ∧ o.isCells = false) : NormLoc w W' U g1 g2 s d cur l1 c1 n2 zs eps f :=
  ⟨h.bt.kept hb hrow, h.be.kept hb hrow, h.bf.kept hb hrow, h.br.kept hb hrow, h.bo.kept hb hrow, h.bu.kept hb hrow, h.b1.kept hb hrow, h.b2.kept hb hrow⟩
theorem NormLoc.ext (h : NormLoc w W U g1 g2 s d cur l1 c1 n2 zs eps f) (x : Ext W W') : NormLoc w W' U g1 g2 s d cur l1 c1 n2 zs eps f :=
  ⟨h.bt.ext x, h.be.ext x, h.bf.ext x, h.br.ext x, h.bo.ext x, h.bu.ext x, h.b1.ext x, h.b2.ext x⟩
end
theorem NormLoc.grown {w W W' : World} {U g1 g2 R : Nat} {s d : Value} {cur : Array Value} {l1 c1 n2 : Nat} {zs : List Int} {eps f : Int} (h : NormLoc w W U g1 g2 s d cur l1 c1 n2 zs eps f) (hb : W.grownBy W' (some R)) (h1 : w.heap.size + 4 < g1) (h2 : g1 < g2) (h3 : g2 < U) (h4 : U < R) : NormLoc w W' U g1 g2 s d cur l1 c1 n2 zs eps f :=
  ⟨h.bt.grown hb (by simp; omega), h.be.grown hb (by simp; omega), h.bf.grown hb (by simp; omega), h.br.grown hb (by simp; omega), h.bo.grown hb (by simp; omega), h.bu.grown hb (by simp; omega), h.b1.grown hb (by simp; omega), h.b2.grown hb (by simp; omega)⟩
theorem NormLoc.set {w W : World} {U g1 g2 : Nat} {s d : Value} {cur : Array Value} {l1 c1 n2 : Nat} {zs : List Int} {eps f : Int} (h : NormLoc w W U g1 g2 s d cur l1 c1 n2 zs eps f) (h1 : w.heap.size + 4 < g1) (h2 : g1 < g2) (h3 : g2 < U) (i : Nat) (z : Int) : NormLoc w (W.setCell ⟨g2, i, none⟩ (.int .i64 z)) U g1 g2 s d cur l1 c1 n2 (zs.set i z) eps f :=
  ⟨h.bt.far (by simp; omega) _, h.be.far (by simp; omega) _, h.bf.far (by simp; omega) _, h.br.far (by simp; omega) _, h.bo.far (by simp; omega) _, h.bu.far (by simp; omega) _, h.b1.far (by simp; omega) _, by rw [← ints_set]; exact h.b2.set_ i _⟩
/-- The j-th row of n words. -/
def rowL (ds : List Int) (n j : Nat) : List Int := (List.range n).map (fun t => ds.getD (j * n + t) 0)
theorem rowL_len (ds : List Int) (n j : Nat) : (rowL ds n j).length = n := by simp [rowL]
theorem rowL_at {ds : List Int} {n j t : Nat} (h : t < n) : (rowL ds n j).getD t 0 = ds.getD (j * n + t) 0 := by simp [rowL, h]
theorem Row.sub {w : World} {db dO dc n j : Nat} {ds : List Int} (h : Row .i64 w (.slice (some ⟨db, dO, none⟩) ds.length dc) ds) (hj : j * n + n ≤ ds.length) : Row .i64 w (.slice (some ⟨db, dO + j * n, none⟩) n n) (rowL ds n j) := by
  obtain ⟨a, cap, e, h1, h2, h3⟩ := h
  refine ⟨some ⟨db, dO + j * n, none⟩, n, by rw [rowL_len], by rw [rowL_len]; exact Nat.le_refl _, Nat.le_trans (Nat.le_trans (show n ≤ ds.length by omega) h1) h2, fun hn => ⟨db, dO + j * n, rfl, fun i hi => ?_⟩⟩
  rw [rowL_len] at hi
  obtain ⟨b', o', e', hc⟩ := h3 (by intro e; subst e; simp at hj; omega)
  cases e
  cases e'
  rw [rowL_at hi, Nat.add_assoc]
  exact hc (j * n + i) (by omega)
/-- Rows normed, as a world holds them, in new blocks. -/
structure NormRes (base : Nat) (w : World) (v : Value) (xs ds : List Int) (n : Nat) (eps f : Int) : Prop where
  is : ∃ (g1 c1 : Nat) (cur : Array Value) (g2 : Nat) (zs : List Int), v = .agg #[.slice (some ⟨g1, 0, none⟩) xs.length c1, .slice (some ⟨g2, 0, none⟩) ds.length ds.length] ∧ Blk w g1 3 cur ∧ cur.size = c1 ∧ xs.length ≤ c1 ∧ c1 ≤ maxLen ∧ cur.toList.take xs.length = xs.map (Value.int .i64) ∧
    Blk w g2 2 (ints zs) ∧ base ≤ g1 ∧ g1 < g2 ∧ zs.length = ds.length ∧ NormTo ds n eps f zs ds.length
theorem nchk_ok {xs ds : List Int} {eps f : Int} (h1 : tenB xs ds = true) (h2 : gd eps = true) (h3 : 0 < eps) (h4 : gdF f = true) (h5 : 0 < xs.length) : nchk xs ds eps f = 0 := by
  have : xs.length ≠ 0 := by omega
  simp [nchk, h1, h2, h3, h4, this]
theorem rows_of {xs ds : List Int} {n : Nat} (h1 : tenB xs ds = true) (h5 : 0 < xs.length) (hn : xs.getD (xs.length - 1) 0 = n) : ∃ m, ds.length = m * n ∧ 0 < ds.length ∧ 0 < n := by
  simp only [tenB, Bool.and_eq_true, decide_eq_true_eq] at h1
  obtain ⟨⟨hs, hp⟩, -⟩ := h1
  obtain ⟨hD, -⟩ := shp_dims hs
  have hl := hD.at (xs.length - 1) (by omega)
  rw [hn] at hl
  have e : xs = xs.take (xs.length - 1) ++ [(n : Int)] := by
    have := take_succ_getD xs (xs.length - 1) (by omega)
    rw [hn, List.take_of_length_le (by omega)] at this
    exact this
  have h1 := (hD.take (xs.length - 1)).1
  rw [e, pr_snoc] at hp
  obtain ⟨m, hm⟩ := Int.eq_ofNat_of_zero_le (show 0 ≤ pr (xs.take (xs.length - 1)) by omega)
  rw [hm] at hp h1
  have hp' : ds.length = m * n := by exact_mod_cast hp
  refine ⟨m, hp', ?_, by omega⟩
  rw [hp']
  exact Nat.mul_pos (by omega) (by omega)
set_option maxHeartbeats 4000000 in
set_option maxRecDepth 100000 in
theorem nNorm_ok {s d : Value} {xs ds : List Int} {w : World} {eps f : Int} (hs : Row .i64 w s xs) (hd : Row .i64 w d ds) (h1 : tenB xs ds = true) (h2 : gd eps = true) (h3 : 0 < eps) (h4 : gdF f = true) (h5 : 0 < xs.length) (h6 : ds.length ≤ 24) (n : Nat) (hn : xs.getD (xs.length - 1) 0 = n) :
    Calls Try.prog 19 #[.agg #[s, d], .int .i64 eps, .int .i64 f] w fun e w' => ∃ v, e = .returned (.tuple #[v, .int .i64 0]) ∧ Ext w w' ∧ NormRes w.heap.size w' v xs ds n eps f := by
  have CK := Lib.hid (fun u (x : Ext w u) => nCheck_any (eps := eps) (f := f) (hs.ext x) (hd.ext x))
  rw [nchk_ok h1 h2 h3 h4 h5] at CK
  obtain ⟨hD, hp⟩ : Dims xs ∧ pr xs ≤ 65536 := shp_dims (by simp [tenB] at h1; exact h1.1.1)
  have EN := Lib.hid (fun u (x : Ext w u) => elemNew_some (hs.ext x) h5 hD hp ds.length (by simp [tenB] at h1; exact h1.1.2.symm))
  obtain ⟨m, hm, hm0, n0⟩ := rows_of h1 h5 hn
  have HM := Lib.hid hm
  have HN := Lib.hid hn
  clear hm hn
  obtain ⟨a, ca, rfl, la⟩ := hs.form
  obtain ⟨b, cb, rfl, lb⟩ := hd.form
  have HS := Lib.hid hs
  have HD := Lib.hid hd
  clear hs hd
  refine (callsIn_wide (n := 10)).1 ?_
  refine callsIn_of_wp_marks Try.func19 rfl trivial ?_
  simp only [Try.ntmps19, List.size_toArray, List.length_cons, List.length_nil, Nat.reduceAdd, Nat.reduceSub, Array.replicate_succ, Array.replicate_zero, List.push_toArray, List.append_toArray, List.nil_append, List.cons_append]
  refine wpIn_wide.2 ?_
  go_wp2_with fail
  refine (CK.out _ (by repeat (first | with_reducible exact Ext.refl _ | with_reducible apply Ext.drew | with_reducible apply Ext.drewN | with_reducible apply Ext.alloc | ((with_reducible refine Ext.setCell ?_ ?_ _); rotate_left; focus (first | (simp; done) | (simp; omega) | omega)) | with_reducible refine Ext.tr ?_ x1 | with_reducible refine Ext.tr ?_ x2 | with_reducible refine Ext.tr ?_ x5 | with_reducible refine Ext.tr ?_ x6 | with_reducible refine Ext.tr ?_ x7 | with_reducible refine Ext.tr ?_ xf | with_reducible refine Ext.tr ?_ hx | with_reducible assumption))).mono ?_; rintro e v1 ⟨rfl, x1⟩; obtain ⟨c1, f1⟩ := x1.rules; have z1 := x1.size; have k1_0_0 := c1 (w.heap.size) 0 (by first | (simp; done) | (simp; omega) | omega); have q1_0_0 := f1 (w.heap.size) 0 (by first | (simp; done) | (simp; omega) | omega); have k1_0_1 := c1 (w.heap.size) 1 (by first | (simp; done) | (simp; omega) | omega); have q1_0_1 := f1 (w.heap.size) 1 (by first | (simp; done) | (simp; omega) | omega); have k1_1_0 := c1 (w.heap.size + 1) 0 (by first | (simp; done) | (simp; omega) | omega); have q1_1_0 := f1 (w.heap.size + 1) 0 (by first | (simp; done) | (simp; omega) | omega); have k1_2_0 := c1 (w.heap.size + 2) 0 (by first | (simp; done) | (simp; omega) | omega); have q1_2_0 := f1 (w.heap.size + 2) 0 (by first | (simp; done) | (simp; omega) | omega); have k1_3_0 := c1 (w.heap.size + 3) 0 (by first | (simp; done) | (simp; omega) | omega); have q1_3_0 := f1 (w.heap.size + 3) 0 (by first | (simp; done) | (simp; omega) | omega); have k1_3_1 := c1 (w.heap.size + 3) 1 (by first | (simp; done) | (simp; omega) | omega); have q1_3_1 := f1 (w.heap.size + 3) 1 (by first | (simp; done) | (simp; omega) | omega); have k1_4_0 := c1 (w.heap.size + 4) 0 (by first | (simp; done) | (simp; omega) | omega); have q1_4_0 := f1 (w.heap.size + 4) 0 (by first | (simp; done) | (simp; omega) | omega); have z1_0 : w.heap.size < v1.heap.size := (by (try simp at z1); omega); have z1_1 : w.heap.size + 1 < v1.heap.size := (by (try simp at z1); omega); have z1_2 : w.heap.size + 2 < v1.heap.size := (by (try simp at z1); omega); have z1_3 : w.heap.size + 3 < v1.heap.size := (by (try simp at z1); omega); have z1_4 : w.heap.size + 4 < v1.heap.size := (by (try simp at z1); omega); (try simp at z1); clear c1 f1; simp [go_sem, *] at k1_0_0 q1_0_0 k1_0_1 q1_0_1 k1_1_0 q1_1_0 k1_2_0 q1_2_0 k1_3_0 q1_3_0 k1_3_1 q1_3_1 k1_4_0 q1_4_0
  go_wp2_with fail
  refine (EN.out _ (by repeat (first | with_reducible exact Ext.refl _ | with_reducible apply Ext.drew | with_reducible apply Ext.drewN | with_reducible apply Ext.alloc | ((with_reducible refine Ext.setCell ?_ ?_ _); rotate_left; focus (first | (simp; done) | (simp; omega) | omega)) | with_reducible refine Ext.tr ?_ x1 | with_reducible refine Ext.tr ?_ x2 | with_reducible refine Ext.tr ?_ x5 | with_reducible refine Ext.tr ?_ x6 | with_reducible refine Ext.tr ?_ x7 | with_reducible refine Ext.tr ?_ xf | with_reducible refine Ext.tr ?_ hx | with_reducible assumption))).mono ?_; rintro e v2 ⟨g1, c1, cur, g2, rfl, x2, p1, p2, p3, p4, p5, p6, p7, p8⟩; obtain ⟨c2, f2⟩ := x2.rules; have z2 := x2.size; have k2_0_0 := c2 (w.heap.size) 0 (by first | (simp; done) | (simp; omega) | omega); have q2_0_0 := f2 (w.heap.size) 0 (by first | (simp; done) | (simp; omega) | omega); have k2_0_1 := c2 (w.heap.size) 1 (by first | (simp; done) | (simp; omega) | omega); have q2_0_1 := f2 (w.heap.size) 1 (by first | (simp; done) | (simp; omega) | omega); have k2_1_0 := c2 (w.heap.size + 1) 0 (by first | (simp; done) | (simp; omega) | omega); have q2_1_0 := f2 (w.heap.size + 1) 0 (by first | (simp; done) | (simp; omega) | omega); have k2_2_0 := c2 (w.heap.size + 2) 0 (by first | (simp; done) | (simp; omega) | omega); have q2_2_0 := f2 (w.heap.size + 2) 0 (by first | (simp; done) | (simp; omega) | omega); have k2_3_0 := c2 (w.heap.size + 3) 0 (by first | (simp; done) | (simp; omega) | omega); have q2_3_0 := f2 (w.heap.size + 3) 0 (by first | (simp; done) | (simp; omega) | omega); have k2_3_1 := c2 (w.heap.size + 3) 1 (by first | (simp; done) | (simp; omega) | omega); have q2_3_1 := f2 (w.heap.size + 3) 1 (by first | (simp; done) | (simp; omega) | omega); have k2_4_0 := c2 (w.heap.size + 4) 0 (by first | (simp; done) | (simp; omega) | omega); have q2_4_0 := f2 (w.heap.size + 4) 0 (by first | (simp; done) | (simp; omega) | omega); have z2_0 : w.heap.size < v2.heap.size := (by (try simp at z2); omega); have z2_1 : w.heap.size + 1 < v2.heap.size := (by (try simp at z2); omega); have z2_2 : w.heap.size + 2 < v2.heap.size := (by (try simp at z2); omega); have z2_3 : w.heap.size + 3 < v2.heap.size := (by (try simp at z2); omega); have z2_4 : w.heap.size + 4 < v2.heap.size := (by (try simp at z2); omega); (try simp at z2); clear c2 f2; simp [go_sem, *] at k2_0_0 q2_0_0 k2_0_1 q2_0_1 k2_1_0 q2_1_0 k2_2_0 q2_2_0 k2_3_0 q2_3_0 k2_3_1 q2_3_1 k2_4_0 q2_4_0
  go_wp2_with fail
  refine (softRows_any _ _ _ _ _ _ _).mono ?_
  rintro e w' ⟨rfl, rfl⟩
  go_wp2_with fail
  have hxl : xs.length ≤ 1000 := by have := hD.1; omega
  have hcap : ds.length ≤ cb := by
    obtain ⟨_, _, e, h, _⟩ := HD.out
    cases e; exact h
  obtain ⟨sb, so, rfl, cs⟩ := hxc_of HS.out (by intro e; rw [e] at h5; simp at h5)
  obtain ⟨db, dO, rfl, cd⟩ := hxc_of HD.out (by intro e; rw [e] at hm0; simp at hm0)
  have hsh : w.cell? ⟨sb, so + (xs.length - 1), none⟩ = some (.int .i64 n) := by rw [← HN.out]; exact cs (xs.length - 1) (by omega)
  have z2w : w.heap.size + 1 + 1 + 1 + 1 < v2.heap.size := by omega
  have g2lt := p6.lt
  have U0 : w.heap.size + 4 < g1 := by omega
  have hloc : NormLoc w ((v2.alloc (.cells #[.slice (some ⟨g1, 0, none⟩) xs.length c1, .slice (some ⟨g2, 0, none⟩) ds.length ds.length] 26)).alloc (.cells #[.slice (some ⟨sb, so, none⟩) xs.length ca, .slice (some ⟨db, dO, none⟩) ds.length cb] 26)) v2.heap.size g1 g2 (.slice (some ⟨sb, so, none⟩) xs.length ca) (.slice (some ⟨db, dO, none⟩) ds.length cb) cur xs.length c1 ds.length (List.replicate ds.length 0) eps f := by
    refine ⟨?_, ?_, ?_, ?_, ?_, ?_, ?_, ?_⟩
    · exact ((((((((((Blk.new w _ _).alloc _).alloc _).alloc _).alloc _).ext x1)).ext x2).alloc _).alloc _)
    · simpa using ((((((((Blk.new (w.alloc _) _ _).alloc _).alloc _).alloc _).ext x1)).ext x2).alloc _).alloc _
    · simpa using ((((((((Blk.new ((w.alloc _).alloc _) _ _).alloc _).alloc _).ext x1)).ext x2).alloc _).alloc _)
    · simpa using ((((((Blk.new (((w.alloc _).alloc _).alloc _) _ _).alloc _).ext x1).ext x2).alloc _).alloc _)
    · simpa using (((((Blk.new ((((w.alloc _).alloc _).alloc _).alloc _) _ _).ext x1).ext x2).alloc _).alloc _)
    · exact (Blk.new v2 _ _).alloc _
    · exact (p1.alloc _).alloc _
    · exact (p6.alloc _).alloc _
  have X0 : Ext w ((v2.alloc (.cells #[.slice (some ⟨g1, 0, none⟩) xs.length c1, .slice (some ⟨g2, 0, none⟩) ds.length ds.length] 26)).alloc (.cells #[.slice (some ⟨sb, so, none⟩) xs.length ca, .slice (some ⟨db, dO, none⟩) ds.length cb] 26)) := (by repeat (first | with_reducible exact Ext.refl _ | with_reducible apply Ext.drew | with_reducible apply Ext.drewN | with_reducible apply Ext.alloc | ((with_reducible refine Ext.setCell ?_ ?_ _); rotate_left; focus (first | (simp; done) | (simp; omega) | omega)) | with_reducible refine Ext.tr ?_ x1 | with_reducible refine Ext.tr ?_ x2 | with_reducible refine Ext.tr ?_ x5 | with_reducible refine Ext.tr ?_ x6 | with_reducible refine Ext.tr ?_ x7 | with_reducible refine Ext.tr ?_ xf | with_reducible refine Ext.tr ?_ hx | with_reducible assumption))
  have HGD : Hid (∀ i, i < ds.length → -140737488355328 < ds.getD i 0 ∧ ds.getD i 0 < 140737488355328) := Lib.hid (fun i hi => by
    have h := h1
    simp only [tenB, Bool.and_eq_true, List.all_eq_true] at h
    exact gd_iff.1 (h.2 _ (getD_mem ds i hi)))
  obtain ⟨e1, e2⟩ := gd_iff.1 h2
  obtain ⟨f1, f2⟩ := gdF_iff.1 h4
  have P := Lib.hid (And.intro p2 (And.intro p3 (And.intro p4 p5)))
  clear p1 p2 p3 p4 p5 p6 CK EN h1 h2 h4 hD hp
  refine (wpIn_wide (n := 10)).1 ?_
  refine range_iter rfl (by omega) (gf := 79) (lb := #[.pointer (some ⟨v2.heap.size + 1, 0, none⟩)]) rfl trivial (enters_of Try.func79 (by kernel_rfl) rfl)
    (rows_iter 9 (by omega) (v2.heap.size + 1) sb so xs.length ca db dO ds.length cb m n w _ hsh h5 hxl n0 HM.out (by omega) hcap (OldAs.of_ext X0) (by simpa using Blk.new (v2.alloc _) _ _)) (by simp)
    (fun h k => h.trans k) (fun W l o hl => KeptD.put W (by simp at hl; omega) (by simp at hl; omega)) (fun W o hl => KeptD.ext (Ext.alloc (Ext.refl _) _) (by simp at hl; omega) (by simp at hl; omega)) (fun _ => rfl)
    (fun pre W => (∃ zs : List Int, zs.length = ds.length ∧ NormTo ds n eps f zs (pre.length * n) ∧ NormLoc w W v2.heap.size g1 g2 (.slice (some ⟨sb, so, none⟩) xs.length ca) (.slice (some ⟨db, dO, none⟩) ds.length cb) cur xs.length c1 ds.length zs eps f) ∧ Ext w W)
    (fun _ _ _ => False)
    (OwnFrom.and (fun s A B row hs hg hr => by
      obtain ⟨zs, z1, z2, z3⟩ := hs
      exact ⟨zs, z1, z2, z3.kept hg (fun r e => (hr r e).2)⟩) (ownFrom_below (Nat.le_refl _) (by simp; omega)))
    (fun _ _ _ _ _ hs _ _ => hs)
    (fun s A B hs hg => by
      obtain ⟨⟨zs, z1, z2, z3⟩, hx⟩ := hs
      exact ⟨⟨zs, z1, z2, z3.grown hg U0 p8 g2lt (by omega)⟩, Ext.grown hx hg (fun k e => by cases e; omega)⟩)
    (fun _ _ _ _ hs _ => hs)
    ⟨⟨List.replicate ds.length 0, by simp, fun i hi => by simp at hi, hloc⟩, X0⟩
    (fun pre W hp hi => hp.2) ?round ?done ?stop
  case stop => exact fun _ _ _ _ _ _ h => h.elim
  case round =>
    intro l pre x W hsz hp hi
    obtain ⟨rfl, hpm⟩ := hp.last
    have HI := Lib.hid hi
    have hsz' : v2.heap.size + 1 < W.heap.size := by simp at hsz; omega
    clear hi hsz hp hloc
    have hA : pre.length * n + n ≤ ds.length := by
      have := Nat.mul_le_mul_right n (show pre.length + 1 ≤ m by omega)
      rw [Nat.add_mul] at this
      have := HM.out
      omega
    obtain ⟨A, hAA⟩ : ∃ A, pre.length * n = A := ⟨_, rfl⟩
    have PL := Lib.hid (show (pre ++ [pre.length]).length * n = A + n by rw [List.length_append, List.length_singleton, Nat.add_mul, Nat.one_mul, hAA])
    have HI' := Lib.hid HI.out
    simp only [hAA] at HI' hA ⊢
    clear HI
    have HI := HI'
    clear HI'
    generalize hj : pre.length = j at *
    have HAA := Lib.hid hAA
    clear hAA
    gi_wp2
    refine ⟨KeepsOthers.refl _, ⟨Nat.le_refl _, rfl, fun _ _ => rfl⟩, HI.out, fun _ => True, fun _ _ _ _ _ _ _ => trivial, trivial, fun W2 hlt2 hi2 _ => ?_⟩
    obtain ⟨⟨zs, z1, z2, z3⟩, hx2⟩ := hi2
    have RS := Row.sub (j := j) (HD.out.ext hx2) (by rw [HAA.out]; exact hA)
    rw [HAA.out] at RS
    have GR : Hid (∀ i, i < (rowL ds n j).length → -140737488355328 < (rowL ds n j).getD i 0 ∧ (rowL ds n j).getD i 0 < 140737488355328) := Lib.hid (fun i hi => by
      rw [rowL_len] at hi
      rw [rowL_at hi]
      exact HGD.out _ (by have := HAA.out; omega))
    have RL := Lib.hid (rowL_len ds n j)
    have OF := Lib.hid (nOf_any (eps := eps) (f := f) RS GR.out (by rw [RL.out]; omega) h3 e2 f1 f2)
    have ke := (z3.be.cell 0).trans (show (#[.int .i64 eps] : Array Value)[0]? = some (.int .i64 eps) from rfl)
    have kf := (z3.bf.cell 0).trans (show (#[.int .i64 f] : Array Value)[0]? = some (.int .i64 f) from rfl)
    have hsz2 : v2.heap.size + 1 < W2.heap.size := by simp at hlt2; omega
    have Z1 := Lib.hid z1
    have Z2 := Lib.hid z2
    have Z3 := Lib.hid z3
    have HX2 := Lib.hid hx2
    clear z1 z2 z3 hx2 HI RS hlt2 hsz'
    gi_wp2_with fail
    refine ⟨trivial, ?_⟩
    refine (callsIn_wide.2 OF.out).mono ?_
    rintro e v5 ⟨v, rfl, x5, sp⟩
    obtain ⟨a, c, a2, k2, c2, rfl, -⟩ := sp.is
    have SPH := Lib.hid sp
    have HX5 := Lib.hid x5
    have z5 := x5.size
    clear sp OF x5 ke kf
    gi_wp2
    gi_loopw [37] (fun i wr => ∃ (k : Nat) (zs : List Int), k ≤ n ∧ i = .int .i64 k ∧ zs.length = ds.length ∧ NormTo ds n eps f zs (A + k) ∧ NormLoc w wr v2.heap.size g1 g2 (.slice (some ⟨sb, so, none⟩) xs.length ca) (.slice (some ⟨db, dO, none⟩) ds.length cb) cur xs.length c1 ds.length zs eps f ∧ Blk wr v5.heap.size 101 #[.slice a (rowL ds n j).length c, .bool false, .slice a2 k2 c2, .int .i64 f] ∧ SpreadAt W2.heap.size wr (.agg #[.slice a (rowL ds n j).length c, .bool false, .slice a2 k2 c2, .int .i64 f]) (rowL ds n j) eps f ∧ Ext w wr ∧ KeptD w (v2.heap.size + 1) W2 wr ∧ KeepsOthers W2 wr) (fun i _ => n - (intOf i).toNat)
    case atStart =>
      exact ⟨0, zs, Nat.zero_le _, rfl, Z1.out, Z2.out, (Z3.out.ext HX5.out).ext ((Ext.refl _).alloc _), Blk.new v5 _ _, SPH.out.ext ((Ext.refl _).alloc _), (HX2.out.tr HX5.out).alloc _, KeptD.ext (HX5.out.alloc _) (by omega) (by omega), Ext.keeps (HX5.out.alloc _)⟩
    case round =>
      clear Z1 Z2 Z3 HX2 SPH HX5 zs
      obtain ⟨k, zs, hk, rfl, z1, z2, z3, z4, z5, z6, z7, z8⟩ := hrel
      have b0 := (z4.cell 0).trans (show (#[.slice a (rowL ds n j).length c, .bool false, .slice a2 k2 c2, .int .i64 f] : Array Value)[0]? = some (.slice a (rowL ds n j).length c) from rfl)
      have b1 := (z4.cell 1).trans (show (#[.slice a (rowL ds n j).length c, .bool false, .slice a2 k2 c2, .int .i64 f] : Array Value)[1]? = some (.bool false) from rfl)
      have b2 := (z4.cell 2).trans (show (#[.slice a (rowL ds n j).length c, .bool false, .slice a2 k2 c2, .int .i64 f] : Array Value)[2]? = some (.slice a2 k2 c2) from rfl)
      have b3 := (z4.cell 3).trans (show (#[.slice a (rowL ds n j).length c, .bool false, .slice a2 k2 c2, .int .i64 f] : Array Value)[3]? = some (.int .i64 f) from rfl)
      have Z3 := Lib.hid z3
      have Z4 := Lib.hid z4
      have Z2 := Lib.hid z2
      have Z6 := Lib.hid z6
      have Z7 := Lib.hid z7
      have Z8 := Lib.hid z8
      have Z1 := Lib.hid z1
      have sz6 := z7.1
      rcases Nat.lt_or_ge k n with hlt | hge
      · have WD := Lib.hid (nWord_any z5 (k := k) (by rw [RL.out]; exact hlt) GR.out (by rw [RL.out]; omega) h3 f1 f2)
        have Z5 := Lib.hid z5
        clear z1 z2 z3 z4 z5 z6 z7 z8
        gi_wp2_with fail
        refine ⟨trivial, ?_⟩
        refine (callsIn_wide.2 WD.out).mono ?_
        rintro e v6 ⟨q, z, rfl, x6, hq, hz⟩
        have hz' : IsNorm (fun t => ds.getD (j * n + t) 0) n eps f k z := by
          rw [RL.out] at hz
          exact hz.congr (fun i hi => rowL_at hi) hlt
        have gz := hz'.good (by omega) (by omega) h3 (by omega) f2 hlt
        have HZ := Lib.hid hz'
        have FF := Lib.hid (fxFrom_ref hq)
        rw [wv_of gz, we_of gz] at FF
        obtain ⟨aq, kq, cq, rfl, -⟩ := hq.form
        have X6 := Lib.hid x6
        clear WD hz hz' hq gz x6 b0 b1 b2 b3
        gi_wp2_with fail
        refine ⟨trivial, ?_⟩
        refine (callsIn_wide.2 FF.out).mono ?_
        rintro e v7 ⟨rfl, x7⟩
        have z67 := x7.size
        have z56 := X6.out.size
        have hAk : A + k < ds.length := by omega
        have lt2 := Z3.out.b2.lt
        have ku := ((Z3.out.bu.ext X6.out).ext x7).cell 1 |>.trans (show (#[.slice (some ⟨g1, 0, none⟩) xs.length c1, .slice (some ⟨g2, 0, none⟩) ds.length ds.length] : Array Value)[1]? = some (.slice (some ⟨g2, 0, none⟩) ds.length ds.length) from rfl)
        have kz := (((Z3.out.b2.ext X6.out).ext x7).cell (A + k)).trans (ints_at zs (A + k) (by rw [Z1.out]; exact hAk))
        have fz := ((Z3.out.b2.ext X6.out).ext x7).frozen (A + k)
        have wk : IntKind.i64.wrap ((A : Int) + (k : Int)) = ((A + k : Nat) : Int) := by rw [IntKind.wrap_i64]; omega
        have X7 := Lib.hid x7
        generalize zs.getD (A + k) 0 = y at kz
        clear FF x7
        gi_wp2
        have X67 := Lib.hid (X6.out.tr X7.out)
        have g2W : g2 < W2.heap.size := by omega
        refine ⟨⟨k + 1, zs.set (A + k) z, by omega, by go_num, by rw [List.length_set]; exact Z1.out, ?_, (Z3.out.ext X67.out).set U0 p8 g2lt _ _, (Z4.out.ext X67.out).far (by simp; omega) _, (Z5.out.ext X67.out).set g2W _, (Z6.out.tr X67.out).setCell (by simp; omega) _, Z7.out.trans ((KeptD.ext X67.out (by omega) (by omega)).trans (KeptD.set _ (by omega) (by omega))), Z8.out.trans ((Ext.keeps X67.out).trans (KeepsOthers.setCell _ _ _))⟩, by simp [intOf]; omega⟩
        have h := NormTo.step (j := j) (k := k) (by rw [HAA.out]; exact Z2.out) hlt (by rw [HAA.out, Z1.out]; exact hAk) HZ.out
        rw [HAA.out] at h
        exact h
      · obtain rfl : k = n := by omega
        clear z1 z2 z3 z4 z5 z6 z7 z8
        gi_wp2
        refine ends_normal Z8.out Z7.out ⟨⟨zs, Z1.out, ?_, Z3.out⟩, Z6.out⟩
        rw [PL.out]; exact Z2.out
  case done =>
    rintro Dn ys W hD rfl ⟨⟨zs, z1, z2, z3⟩, hx⟩ hK
    have ku0 := (z3.bu.cell 0).trans (show (#[.slice (some ⟨g1, 0, none⟩) xs.length c1, .slice (some ⟨g2, 0, none⟩) ds.length ds.length] : Array Value)[0]? = some (.slice (some ⟨g1, 0, none⟩) xs.length c1) from rfl)
    have ku1 := (z3.bu.cell 1).trans (show (#[.slice (some ⟨g1, 0, none⟩) xs.length c1, .slice (some ⟨g2, 0, none⟩) ds.length ds.length] : Array Value)[1]? = some (.slice (some ⟨g2, 0, none⟩) ds.length ds.length) from rfl)
    have j0 := (z3.br.cell 0).trans (show (#[.slice none 0 0, .slice none 0 0] : Array Value)[0]? = some (.slice none 0 0) from rfl)
    have j1 := (z3.br.cell 1).trans (show (#[.slice none 0 0, .slice none 0 0] : Array Value)[1]? = some (.slice none 0 0) from rfl)
    have jo := (z3.bo.cell 0).trans (show (#[.int .i64 0] : Array Value)[0]? = some (.int .i64 0) from rfl)
    have f0 := z3.br.frozen 0
    have f1 := z3.br.frozen 1
    have fo := z3.bo.frozen 0
    have Z1 := Lib.hid z1
    have Z2 := Lib.hid z2
    have Z3 := Lib.hid z3
    have HX := Lib.hid hx
    have HK := Lib.hid hK
    have hD' : v2.heap.size + 1 < Dn := by simp at hD; omega
    clear z1 z2 z3 hx hK hD hloc
    go_wp2_with fail
    have h3D : Dn ≠ w.heap.size + 1 + 1 + 1 := by omega
    have h4D : Dn ≠ w.heap.size + 1 + 1 + 1 + 1 := by omega
    obtain ⟨Wf, hWf⟩ : ∃ Wf, Wf = (((W.setCell ⟨w.heap.size + 1 + 1 + 1, 0, none⟩ (.slice (some ⟨g1, 0, none⟩) xs.length c1)).setCell ⟨w.heap.size + 1 + 1 + 1, 1, none⟩ (.slice (some ⟨g2, 0, none⟩) ds.length ds.length)).setCell ⟨w.heap.size + 1 + 1 + 1 + 1, 0, none⟩ (.int .i64 0)) := ⟨_, rfl⟩
    have br : Blk Wf (w.heap.size + 1 + 1 + 1) 26 #[.slice (some ⟨g1, 0, none⟩) xs.length c1, .slice (some ⟨g2, 0, none⟩) ds.length ds.length] := by
      rw [hWf]; exact ((Z3.out.br.set_ 0 _).set_ 1 _).far (by simp) _
    have bo : Blk Wf (w.heap.size + 1 + 1 + 1 + 1) 40 #[.int .i64 0] := by
      rw [hWf]; exact ((Z3.out.bo.far (by simp) _).far (by simp) _).set_ 0 _
    have b1 : Blk Wf g1 3 cur := by
      rw [hWf]; exact ((Z3.out.b1.far (by simp; omega) _).far (by simp; omega) _).far (by simp; omega) _
    have b2 : Blk Wf g2 2 (ints zs) := by
      rw [hWf]; exact ((Z3.out.b2.far (by simp; omega) _).far (by simp; omega) _).far (by simp; omega) _
    have hKf : Wf.heap[Dn]? = some (.deferred (some [])) := by
      rw [hWf]
      exact (Below.heap_setCell _ _ _ Dn h4D).trans ((Below.heap_setCell _ _ _ Dn h3D).trans ((Below.heap_setCell _ _ _ Dn h3D).trans HK.out))
    have xf : Ext w Wf := by
      rw [hWf]
      exact ((HX.out.setCell (by simp; omega) _).setCell (by simp; omega) _).setCell (by simp; omega) _
    rw [← hWf]
    clear hWf ku0 ku1 j0 j1 jo f0 f1 fo
    have hP : w.heap.size ≤ Dn := by omega
    have XF : Ext w (Wf.putObj Dn (.deferred none)) := xf.trans (belowK_b (w := w) (Nat.le_refl _) Wf Dn _ _ hP hKf rfl rfl)
    have br' : Blk (Wf.putObj Dn (.deferred none)) (w.heap.size + 1 + 1 + 1) 26 #[.slice (some ⟨g1, 0, none⟩) xs.length c1, .slice (some ⟨g2, 0, none⟩) ds.length ds.length] := (World.putObj_heap_other h3D.symm).trans br
    have bo' : Blk (Wf.putObj Dn (.deferred none)) (w.heap.size + 1 + 1 + 1 + 1) 40 #[.int .i64 0] := (World.putObj_heap_other h4D.symm).trans bo
    have b1' : Blk (Wf.putObj Dn (.deferred none)) g1 3 cur := (World.putObj_heap_other (by omega)).trans b1
    have b2' : Blk (Wf.putObj Dn (.deferred none)) g2 2 (ints zs) := (World.putObj_heap_other (by omega)).trans b2
    have k0 := (br'.cell 0).trans (show (#[.slice (some ⟨g1, 0, none⟩) xs.length c1, .slice (some ⟨g2, 0, none⟩) ds.length ds.length] : Array Value)[0]? = some (.slice (some ⟨g1, 0, none⟩) xs.length c1) from rfl)
    have k1 := (br'.cell 1).trans (show (#[.slice (some ⟨g1, 0, none⟩) xs.length c1, .slice (some ⟨g2, 0, none⟩) ds.length ds.length] : Array Value)[1]? = some (.slice (some ⟨g2, 0, none⟩) ds.length ds.length) from rfl)
    have k2 := (bo'.cell 0).trans (show (#[.int .i64 0] : Array Value)[0]? = some (.int .i64 0) from rfl)
    refine ⟨by simp, .inl ⟨_, _, rfl, run_takeDeferred hKf, ?_⟩⟩
    generalize Wf.putObj Dn (.deferred none) = Wp at *
    refine ⟨.tuple #[.agg #[.slice (some ⟨g1, 0, none⟩) xs.length c1, .slice (some ⟨g2, 0, none⟩) ds.length ds.length], .int .i64 0], ?_, _, rfl, XF, ⟨⟨g1, c1, cur, g2, zs, rfl, b1', P.out.1, P.out.2.1, P.out.2.2.1, P.out.2.2.2, b2', by omega, p8, Z1.out, ?_⟩⟩⟩
    · simp [results, Try.results19, go_sem, k0, k1, k2]
    · have h := Z2.out
      rw [List.length_range, ← HM.out] at h
      exact h
end Go.Proofs.Ytjmecongccjcgaa
