/- seed.Shuffle. -/
import Derived.Test.YtkegefnpmijfiaaGreatQGbI
import Derived.Test.YtkegefnpmijfiaaGreatQGens
import Derived.Test.YtkegefnpmijfiaaGreatQClonesG
import Derived.BigRegion
namespace Go.Proofs.YtkegefnpmijfiaaGreat
open Go.RowKit Go.Shelf
attribute [local go_sem] Oper.semAt_some
theorem RandNew.put {base l : Nat} {w : World} {v : Value} {g : Gen} (h : RandNew base w v g) (hl : l < base) (o : Obj) : RandNew base (w.putObj l o) v g := by
  obtain ⟨a, c, rfl, r⟩ := h
  refine ⟨a, c, rfl, r.kept (row := some l) (grownBy_putObj' w l o) (.inr ?_)⟩
  rcases r.2 with ⟨h, _⟩ | ⟨g', cap, cur, hv, hb, _⟩
  · injection h with h1 _ _; subst h1; simp [Value.ownBlock]
  · injection hv with h1 _ _; subst h1; simp [Value.ownBlock]; omega
/-- The numbers below n. -/
def iota (n : Nat) : List Int := (List.range n).map fun (i : Nat) => (i : Int)
def fillL (n k : Nat) : List Int := (List.range n).map fun (i : Nat) => if i < k then (i : Int) else 0
theorem fillL_zero (n : Nat) : fillL n 0 = List.replicate n 0 := by
  unfold fillL; apply List.ext_getElem <;> simp
theorem fillL_all (n : Nat) : fillL n n = iota n := by
  unfold fillL iota
  apply List.map_congr_left
  intro i hi
  simp at hi
  simp [hi]
theorem fillL_len (n k : Nat) : (fillL n k).length = n := by simp [fillL]
theorem fillL_set (n k : Nat) : (fillL n k).set k (k : Int) = fillL n (k + 1) := by
  apply List.ext_getElem
  · simp [fillL]
  · intro i h1 h2
    simp only [fillL, List.getElem_set, List.getElem_map, List.getElem_range]
    by_cases h : k = i
    · subst h; simp
    · rw [if_neg h]
      by_cases h3 : i < k
      · rw [if_pos h3, if_pos (by omega)]
      · rw [if_neg h3, if_neg (by omega)]
def swap (l : List Int) (i j : Nat) : List Int := (l.set i (l.getD j 0)).set j (l.getD i 0)
theorem swap_len (l : List Int) (i j : Nat) : (swap l i j).length = l.length := by simp [swap]
/-- The numbers behind k turns. -/
noncomputable def shufAt (n : Nat) (g : Gen) : Nat → List Int
  | 0 => iota n
  | k + 1 => swap (shufAt n g k) (n - 1 - k) ((g.turn n k).below ((n : Int) - k)).toNat
theorem shufAt_len (n : Nat) (g : Gen) (k : Nat) : (shufAt n g k).length = n := by
  induction k with
  | zero => simp [shufAt, iota]
  | succ k ih => rw [shufAt, swap_len, ih]
/-- What Shuffle's own blocks hold: the generator, the result's room, the numbers, their slice. -/
structure ShufLoc (w W : World) (E H : Nat) (l : List Int) (n : Nat) (a : Option Addr) (m c : Nat) (p q r s : Int) : Prop where
  b0 : Blk W w.heap.size 62 (rv a m c p q r s)
  b1 : Blk W (w.heap.size + 1) 62 (rv none 0 0 0 0 0 0)
  bE : Blk W E 3 (ints l)
  bH : Blk W H 23 #[.slice (some ⟨E, 0, none⟩) n n]
section
variable {w W W' : World} {E H n : Nat} {l : List Int} {a : Option Addr} {m c : Nat} {p q r s : Int}
theorem ShufLoc.kept (h : ShufLoc w W E H l n a m c p q r s) {row : Option Nat} (hb : W.grownBy W' row) (hrow : ∀ r, row = some r → ∃ o : Obj, W.heap[r]? = some o ∧ o.isCells = false) : ShufLoc w W' E H l n a m c p q r s :=
  ⟨h.b0.kept hb hrow, h.b1.kept hb hrow, h.bE.kept hb hrow, h.bH.kept hb hrow⟩
theorem ShufLoc.grown (h : ShufLoc w W E H l n a m c p q r s) {B : Nat} (hb : W.grownBy W' (some B)) (h0 : w.heap.size + 1 < B) (h1 : E < B) (h2 : H < B) : ShufLoc w W' E H l n a m c p q r s :=
  ⟨h.b0.grown hb (by simp; omega), h.b1.grown hb (by simp; omega), h.bE.grown hb (by simp; omega), h.bH.grown hb (by simp; omega)⟩
theorem ShufLoc.ext (h : ShufLoc w W E H l n a m c p q r s) (x : Ext W W') : ShufLoc w W' E H l n a m c p q r s :=
  ⟨h.b0.ext x, h.b1.ext x, h.bE.ext x, h.bH.ext x⟩
theorem ShufLoc.setE (h : ShufLoc w W E H l n a m c p q r s) (h0 : w.heap.size + 1 < E) (h1 : E < H) (i : Nat) (x : Int) : ShufLoc w (W.setCell ⟨E, i, none⟩ (.int .i64 x)) E H (l.set i x) n a m c p q r s :=
  ⟨h.b0.far (by simp; omega) _, h.b1.far (by simp; omega) _, by rw [← ints_set]; exact h.bE.set_ i _, h.bH.far (by simp; omega) _⟩
theorem ShufLoc.setR (h : ShufLoc w W E H l n a m c p q r s) (h0 : w.heap.size + 1 < E) (h1 : E < H) (a' : Option Addr) (m' c' : Nat) (p' q' r' s' : Int) :
    ShufLoc w (((((W.setCell ⟨w.heap.size, 0, none⟩ (.slice a' m' c')).setCell ⟨w.heap.size, 1, none⟩ (.int .u64 p')).setCell ⟨w.heap.size, 2, none⟩ (.int .u64 q')).setCell ⟨w.heap.size, 3, none⟩ (.int .u64 r')).setCell ⟨w.heap.size, 4, none⟩ (.int .u64 s')) E H l n a' m' c' p' q' r' s' :=
  ⟨((((h.b0.set_ 0 _).set_ 1 _).set_ 2 _).set_ 3 _).set_ 4 _,
   ((((h.b1.far (by simp) _).far (by simp) _).far (by simp) _).far (by simp) _).far (by simp) _,
   ((((h.bE.far (by simp; omega) _).far (by simp; omega) _).far (by simp; omega) _).far (by simp; omega) _).far (by simp; omega) _,
   ((((h.bH.far (by simp; omega) _).far (by simp; omega) _).far (by simp; omega) _).far (by simp; omega) _).far (by simp; omega) _⟩
end
theorem KeptT.trans {w : World} {B C : Nat} {X Y Z : World} (h : KeptT w B C X Y) (k : KeptT w B C Y Z) : KeptT w B C X Z := ⟨h.1.trans k.1, k.2.trans h.2⟩
theorem KeptT.set {w : World} {B C g o : Nat} (W : World) {v : Value} (hB : B ≠ g) (hC : C ≠ g) (hg : w.heap.size ≤ g) : KeptT w B C W (W.setCell ⟨g, o, none⟩ v) := ⟨KeptD.set W hB hg, Below.heap_setCell W _ v C hC⟩
def shufEnd (w W : World) (E I D : Nat) (yd yi : Int) (a' : Option Addr) (m' c' : Nat) (p' q' r' s' : Int) : World := (((((((W.setCell ⟨E, I, none⟩ (.int .i64 yd)).setCell ⟨E, D, none⟩ (.int .i64 yi)).setCell ⟨w.heap.size, 0, none⟩ (.slice a' m' c')).setCell ⟨w.heap.size, 1, none⟩ (.int .u64 p')).setCell ⟨w.heap.size, 2, none⟩ (.int .u64 q')).setCell ⟨w.heap.size, 3, none⟩ (.int .u64 r')).setCell ⟨w.heap.size, 4, none⟩ (.int .u64 s'))
section
variable {w W : World} {E H B C n I D : Nat} {l : List Int} {a : Option Addr} {m c : Nat} {p q r s : Int} (yd yi : Int) (a' : Option Addr) (m' c' : Nat) (p' q' r' s' : Int)
theorem shufEnd_keeps : KeepsOthers W (shufEnd w W E I D yd yi a' m' c' p' q' r' s') := by
  have s1 : ∀ (X Y : World) (p : Addr) (v : Value), KeepsOthers X Y → KeepsOthers X (Y.setCell p v) := fun X Y p v h => h.trans (KeepsOthers.setCell _ _ _)
  unfold shufEnd
  exact s1 _ _ _ _ (s1 _ _ _ _ (s1 _ _ _ _ (s1 _ _ _ _ (s1 _ _ _ _ (s1 _ _ _ _ (s1 _ _ _ _ (KeepsOthers.refl _)))))))
theorem shufEnd_kept (h0 : w.heap.size + 1 < E) (h1 : E < H) (h2 : H < B) (h3 : B < C) : KeptT w B C W (shufEnd w W E I D yd yi a' m' c' p' q' r' s') := by
  have s1 : ∀ (X Y : World) (o : Nat) (v : Value), KeptT w B C X Y → KeptT w B C X (Y.setCell ⟨E, o, none⟩ v) := fun X Y o v h => h.trans (KeptT.set _ (by omega) (by omega) (by omega))
  have s2 : ∀ (X Y : World) (o : Nat) (v : Value), KeptT w B C X Y → KeptT w B C X (Y.setCell ⟨w.heap.size, o, none⟩ v) := fun X Y o v h => h.trans (KeptT.set _ (by omega) (by omega) (by omega))
  unfold shufEnd
  exact s2 _ _ _ _ (s2 _ _ _ _ (s2 _ _ _ _ (s2 _ _ _ _ (s2 _ _ _ _ (s1 _ _ _ _ (s1 _ _ _ _ ⟨⟨Nat.le_refl _, rfl, fun _ _ => rfl⟩, rfl⟩))))))
theorem shufEnd_loc (hloc : ShufLoc w W E H l n a m c p q r s) (h0 : w.heap.size + 1 < E) (h1 : E < H) : ShufLoc w (shufEnd w W E I D yd yi a' m' c' p' q' r' s') E H ((l.set I yd).set D yi) n a' m' c' p' q' r' s' :=
  ((hloc.setE h0 h1 I yd).setE h0 h1 D yi).setR h0 h1 a' m' c' p' q' r' s'
theorem shufEnd_ext (hx : Ext w W) (h0 : w.heap.size + 1 < E) : Ext w (shufEnd w W E I D yd yi a' m' c' p' q' r' s') :=
  own_ext5 (Ext.setCell (Ext.setCell hx (by simp; omega) _) (by simp; omega) _) (Nat.le_refl _) _ _ _ _ _
theorem shuf_fin (hloc : ShufLoc w W E H l n a m c p q r s) (hx : Ext w W) (h0 : w.heap.size + 1 < E) (h1 : E < H) (h2 : H < B) (h3 : B < C) :
    KeepsOthers W (shufEnd w W E I D yd yi a' m' c' p' q' r' s').drew ∧ KeptT w B C W (shufEnd w W E I D yd yi a' m' c' p' q' r' s').drew ∧
    ShufLoc w (shufEnd w W E I D yd yi a' m' c' p' q' r' s').drew E H ((l.set I yd).set D yi) n a' m' c' p' q' r' s' ∧ Ext w (shufEnd w W E I D yd yi a' m' c' p' q' r' s').drew := by
  have k1 := shufEnd_keeps (w := w) (W := W) (E := E) (I := I) (D := D) yd yi a' m' c' p' q' r' s'
  have k2 := shufEnd_kept (W := W) (I := I) (D := D) yd yi a' m' c' p' q' r' s' h0 h1 h2 h3
  have k3 := shufEnd_loc (I := I) (D := D) yd yi a' m' c' p' q' r' s' hloc h0 h1
  have k4 := shufEnd_ext (I := I) (D := D) yd yi a' m' c' p' q' r' s' hx h0
  generalize shufEnd w W E I D yd yi a' m' c' p' q' r' s' = Z at *
  exact ⟨k1.trans (keeps_drew _), ⟨⟨k2.1.1, k2.1.2.1, k2.1.2.2⟩, k2.2⟩, ⟨k3.b0.drew, k3.b1.drew, k3.bE.drew, k3.bH.drew⟩, Ext.drew k4⟩
end
theorem infoI : (Tryz.prog.info? 3).map (fun i => (i.zero, i.size, i.bytes)) = some (some (.int .i64 0), 1, 8) := by kernel_rfl
set_option maxHeartbeats 1000000 in
set_option maxRecDepth 100000 in
theorem shuffle_new {n : Nat} {g : Gen} {v : Value} {w : World} (h : RandAt w v g) (hf : g.Fine) (n1 : 1 ≤ n) (n2 : n ≤ 65536) (hFew : ∀ j : Int, 1 ≤ j → j ≤ n → Few j) :
    Calls Tryz.prog 35 #[v, .int .i64 n] w fun e w' => ∃ E v', e = .returned (.tuple #[.slice (some ⟨E, 0, none⟩) n n, v', .int .i64 0]) ∧ Ext w w' ∧ Blk w' E 3 (ints (shufAt n g (n - 1))) ∧ w.heap.size ≤ E ∧ RandNew w.heap.size w' v' (g.turn n (n - 1)) := by
  have GOOD := Lib.hid (fun (W : World) (x : Ext w W) => good_rand (h.ext x) hf.1)
  have hl : (g.turn n (n - 1)).script.length ≤ 1000000 := by have := (Gen.turn_fine (n := n) hf (n - 1)).len; omega
  have OWN : Hid (∀ (u : Value) (W : World), RandAt w u (g.turn n (n - 1)) → Ext w W → Calls Tryz.prog 121 #[u] W fun e w' => ∃ a m c p q r s, e = .returned (.agg #[.slice a m c, .int .u64 p, .int .u64 q, .int .u64 r, .int .u64 s]) ∧ Ext W w' ∧ Hid (RandNew W.heap.size w' (.agg #[.slice a m c, .int .u64 p, .int .u64 q, .int .u64 r, .int .u64 s]) (g.turn n (n - 1)))) := Lib.hid fun u W hu x => (own_seed (hu.ext x) hl).mono (by
    rintro e w' ⟨v', rfl, x, h⟩
    obtain ⟨a, m, c, p, q, r, s, rfl, -⟩ := h.at.form
    exact ⟨a, m, c, p, q, r, s, rfl, x, Lib.hid h⟩)
  have HR := Lib.hid h
  have HF := Lib.hid hf
  have HFEW := Lib.hid hFew
  obtain ⟨i0, hi0, hz0, hz1, hz2⟩ := info_parts infoI
  clear hl hFew hf
  obtain ⟨a, m, c, p, q, r, s, rfl, -⟩ := h.form
  clear h
  refine (callsIn_wide (n := 10)).1 ?_
  refine callsIn_of_wp_marks Tryz.func35 rfl trivial ?_
  simp only [Tryz.ntmps35, List.size_toArray, List.length_cons, List.length_nil, Nat.reduceAdd, Nat.reduceSub, Array.replicate_succ, Array.replicate_zero, List.push_toArray, List.append_toArray, List.nil_append, List.cons_append]
  refine wpIn_wide.2 ?_
  go_wp2_with fail
  refine (GOOD.out _ Ext.q).mono ?_; rintro e v1 ⟨rfl, x1⟩; obtain ⟨c1, f1⟩ := x1.rules; have z1 := x1.size
  have b0 : Blk v1 w.heap.size 62 (rv a m c p q r s) := ((Blk.new w _ _).alloc _).ext x1
  have b1 : Blk v1 (w.heap.size + 1) 62 (rv none 0 0 0 0 0 0) := by have := (Blk.new (w.alloc (.cells (rv a m c p q r s) 62)) 62 (rv none 0 0 0 0 0 0)).ext x1; simpa using this
  have z1 := x1.size
  simp at z1
  have xw : Ext w v1 := Ext.q
  have B0 := Lib.hid b0
  have B1 := Lib.hid b1
  clear b0 b1 c1 f1 x1
  go_wp2_with fail; refine (seedCount_ok _ (by omega) (by omega) _).mono ?_; rintro e w' ⟨rfl, rfl⟩
  go_wp2_with (at_make; refine wpList_make_full _ rfl _ _ 23 rfl v1.heap.size 3 i0 _ 1 Tryz.underlying23 hi0 hz0 hz1 _ _ _ _ n rfl rfl (by omega) (by omega) (by rw [hz2]; omega) (by unfold maxLen; omega) (Nat.le_refl _) ?_; intro v3 hown0 hgrow0)
  have hownA : v3.ownsRow v1.heap.size 3 1 (.slice (some ⟨v1.heap.size, 0, none⟩) n n) n ((fillL n 0).map (Value.int .i64)) := by
    rw [fillL_zero, List.map_replicate]; have h := hown0; rw [Nat.mul_one, show (Value.int .i64 0).cells = #[.int .i64 0] from rfl, toList_madeCells_one] at h; exact h
  have bE := own_blk hownA
  have x3 : Ext v1 v3 := Ext.grown (Ext.refl _) hgrow0 (fun r hr => by cases hr)
  have b0 := B0.out.ext x3
  have b1 := B1.out.ext x3
  have z3 := bE.lt
  have xw3 := xw.tr x3
  have SL : Hid (ShufLoc w (v3.alloc (.cells #[.slice (some ⟨v1.heap.size, 0, none⟩) n n] 23)) v1.heap.size v3.heap.size (fillL n 0) n a m c p q r s) := Lib.hid ⟨b0.alloc _, b1.alloc _, bE.alloc _, Blk.new _ _ _⟩
  clear hownA hown0 hgrow0 bE x3 b0 b1 B0 B1 xw
  generalize hE : v1.heap.size = E at *
  generalize hH : v3.heap.size = H at *
  clear hE
  go_wp2_with fail
  go_loopw [24] (fun iv wr => ∃ k : Nat, k ≤ n ∧ iv = .int .i64 k ∧ ShufLoc w wr E H (fillL n k) n a m c p q r s ∧ Ext w wr) (fun iv _ => n - (intOf iv).toNat)
  case atStart => exact ⟨0, Nat.zero_le _, rfl, SL.out, Ext.q⟩
  case round =>
    clear SL xw3 hH
    obtain ⟨k, hk, rfl, hloc, hext⟩ := hrel
    have hHw := hloc.bH.lt
    have kh := (hloc.bH.cell 0).trans (show (#[Value.slice (some ⟨E, 0, none⟩) n n] : Array Value)[0]? = some (.slice (some ⟨E, 0, none⟩) n n) from rfl)
    by_cases hlt : k < n
    · have ke := (hloc.bE.cell k).trans (ints_at _ k (by rw [fillL_len]; exact hlt))
      have fe := hloc.bE.frozen k
      have HL := Lib.hid hloc
      have nx : (k : Int) < (n : Int) := by omega
      generalize (fillL n k).getD k 0 = y at ke
      clear hloc
      go_wp2_with fail
      go_roundw
      case rel => exact ⟨k + 1, by omega, by go_num, by rw [← fillL_set]; exact HL.out.setE (by omega) (by omega) k _, Ext.q⟩
      case measure => simp [intOf]; omega
    · obtain rfl : k = n := by omega
      rw [fillL_all] at hloc
      have k0 := (hloc.b0.cell 0).trans (show (rv a m c p q r s)[0]? = some (.slice a m c) from rfl)
      have k1 := (hloc.b0.cell 1).trans (show (rv a m c p q r s)[1]? = some (.int .u64 p) from rfl)
      have k2 := (hloc.b0.cell 2).trans (show (rv a m c p q r s)[2]? = some (.int .u64 q) from rfl)
      have k3 := (hloc.b0.cell 3).trans (show (rv a m c p q r s)[3]? = some (.int .u64 r) from rfl)
      have k4 := (hloc.b0.cell 4).trans (show (rv a m c p q r s)[4]? = some (.int .u64 s) from rfl)
      have LOC0 := Lib.hid hloc
      clear hloc
      go_wp2_with fail
      refine (turns_any a m c p q r s k _).mono ?_
      rintro e v5 ⟨rfl, rfl⟩
      go_wp2_with fail
      clear k0 k1 k2 k3 k4 kh
      refine (wpIn_wide (n := 10)).1 ?_
      refine range_iter rfl (by omega) (gf := 190) (lb := #[.pointer (some ⟨wr.heap.size + 1, 0, none⟩), .pointer (some ⟨wr.heap.size, 0, none⟩)]) rfl trivial (enters_of Tryz.func190 (by kernel_rfl) rfl)
        (turns_iter 9 (by omega) wr.heap.size (wr.heap.size + 1) k k g w _ a m c p q r s n1 (by omega) HF.out HFEW.out HR.out (OldAs.of_ext Ext.q) (by omega) (by omega) (by simp) ⟨by simp [go_sem], by simp [go_sem], by simp [go_sem], by simp [go_sem], by simp [go_sem], by simp [go_sem], by simp [go_sem], by simp [go_sem], by simp [go_sem], by simp [go_sem]⟩ (by simp [go_sem])) (by simp; omega)
        (fun h k => ⟨h.1.trans k.1, k.2.trans h.2⟩) (fun W l o hl => ⟨KeptD.put W (by simp at hl; omega) (by simp at hl; omega), World.putObj_heap_other (by simp at hl; omega)⟩) (fun W o hl => ⟨KeptD.ext (Ext.alloc (Ext.refl _) _) (by simp at hl; omega) (by simp at hl; omega), (Ext.alloc (Ext.refl W) o).block _ (by simp at hl; omega)⟩) (fun _ => rfl)
        (fun pre W => (∃ (a' : Option Addr) (m' c' : Nat) (p' q' r' s' : Int), ShufLoc w W E H (shufAt k g pre.length) k a' m' c' p' q' r' s' ∧ RandAt w (.agg (rv a' m' c' p' q' r' s')) (g.turn k pre.length)) ∧ Ext w W)
        (fun _ _ _ => False)
        (OwnFrom.and (fun s A B row hs hg hr => by
          obtain ⟨a', m', c', p', q', r', s', h1, h2⟩ := hs
          exact ⟨a', m', c', p', q', r', s', h1.kept hg (fun r e => (hr r e).2), h2⟩) (ownFrom_below (Nat.le_refl _) (by simp; omega)))
        (fun _ _ _ _ _ hs _ _ => hs)
        (fun s A B hs hg => by
          obtain ⟨⟨a', m', c', p', q', r', s', h1, h2⟩, hx⟩ := hs
          exact ⟨⟨a', m', c', p', q', r', s', h1.grown hg (by omega) (by omega) (by omega), h2⟩, Ext.grown hx hg (fun k e => by cases e; omega)⟩)
        (fun _ _ _ _ hs _ => hs)
        ⟨⟨a, m, c, p, q, r, s, (LOC0.out.ext Ext.q), HR.out⟩, Ext.q⟩
        (fun pre W hp hi => by have := hp.1; omega) ?round ?done ?stop
      case round =>
        clear hk hlt
        intro l pre x W hsz hp hi
        obtain ⟨hx0, hx1, hx2⟩ := hp.2 pre.length x (by simp)
        have hlen := hp.1
        rw [List.length_append, List.length_singleton] at hlen
        obtain ⟨xi, xd, xv⟩ := x
        simp only at hx0 hx1 hx2
        obtain ⟨a', m', c', p', q', r', s', rfl, hm'⟩ := hx2.form
        obtain ⟨I, hI⟩ : ∃ I : Nat, k - 1 - pre.length = I := ⟨_, rfl⟩
        obtain ⟨d0, d1⟩ := (g.turn k pre.length).below_bd (n := (k : Int) - pre.length) (by omega)
        obtain ⟨D, hD⟩ : ∃ D : Nat, ((g.turn k pre.length).below ((k : Int) - pre.length)).toNat = D := ⟨_, rfl⟩
        obtain rfl : xi = (I : Int) := by omega
        obtain rfl : xd = (D : Int) := by omega
        have hIk : I < k := by omega
        have hDk : D < k := by omega
        have HX2 := Lib.hid hx2
        have HI := Lib.hid hi
        have HII := Lib.hid hI
        have HDD := Lib.hid hD
        have hsz' : wr.heap.size + 1 < W.heap.size := by simp at hsz; omega
        clear hx0 hx1 hx2 hi hsz hp hm' d0 d1 hD hI
        gi_wp2
        refine ⟨Ext.keeps Ext.q, ⟨KeptD.ext (show Ext W _ from Ext.q) (by omega) (by omega), (show Ext W _ from Ext.q).block _ (by omega)⟩, ⟨?_, Ext.tr HI.out.2 Ext.q⟩, fun Y => Blk Y W.heap.size 175 #[.int .i64 I, .int .i64 D] ∧ Blk Y (W.heap.size + 1) 62 (rv a' m' c' p' q' r' s'), fun _ A B row hs hg hr => ⟨hs.1.kept hg (fun r e => (hr r e).2), hs.2.kept hg (fun r e => (hr r e).2)⟩, ⟨(Blk.new W _ _).alloc _, by have := Blk.new (W.alloc (.cells #[.int .i64 I, .int .i64 D] 175)) 62 (rv a' m' c' p' q' r' s'); rw [World.size_alloc] at this; exact this⟩, fun W2 hlt hi2 hb9 => ?_⟩
        · obtain ⟨⟨a2, m2, c2, p2, q2, r2, s2, h1, h2⟩, -⟩ := HI.out
          exact ⟨a2, m2, c2, p2, q2, r2, s2, h1.ext Ext.q, h2⟩
        · obtain ⟨⟨a2, m2, c2, p2, q2, r2, s2, hloc, -⟩, hx2⟩ := hi2
          obtain ⟨hb8, hb9⟩ := hb9
          have t0 := (hb8.cell 0).trans (show (#[Value.int .i64 I, .int .i64 D] : Array Value)[0]? = some (.int .i64 I) from rfl)
          have t1 := (hb8.cell 1).trans (show (#[Value.int .i64 I, .int .i64 D] : Array Value)[1]? = some (.int .i64 D) from rfl)
          have k0 := (hb9.cell 0).trans (show (rv a' m' c' p' q' r' s')[0]? = some (.slice a' m' c') from rfl)
          have k1 := (hb9.cell 1).trans (show (rv a' m' c' p' q' r' s')[1]? = some (.int .u64 p') from rfl)
          have k2 := (hb9.cell 2).trans (show (rv a' m' c' p' q' r' s')[2]? = some (.int .u64 q') from rfl)
          have k3 := (hb9.cell 3).trans (show (rv a' m' c' p' q' r' s')[3]? = some (.int .u64 r') from rfl)
          have k4 := (hb9.cell 4).trans (show (rv a' m' c' p' q' r' s')[4]? = some (.int .u64 s') from rfl)
          have kh := (hloc.bH.cell 0).trans (show (#[Value.slice (some ⟨E, 0, none⟩) k k] : Array Value)[0]? = some (.slice (some ⟨E, 0, none⟩) k k) from rfl)
          have ki := (hloc.bE.cell I).trans (ints_at _ I (by rw [shufAt_len]; exact hIk))
          have kd := (hloc.bE.cell D).trans (ints_at _ D (by rw [shufAt_len]; exact hDk))
          have fi := hloc.bE.frozen I
          have fd := hloc.bE.frozen D
          have kr0 := (hloc.b0.cell 0).trans (show (rv a2 m2 c2 p2 q2 r2 s2)[0]? = some (.slice a2 m2 c2) from rfl)
          have kr1 := (hloc.b0.cell 1).trans (show (rv a2 m2 c2 p2 q2 r2 s2)[1]? = some (.int .u64 p2) from rfl)
          have kr2 := (hloc.b0.cell 2).trans (show (rv a2 m2 c2 p2 q2 r2 s2)[2]? = some (.int .u64 q2) from rfl)
          have kr3 := (hloc.b0.cell 3).trans (show (rv a2 m2 c2 p2 q2 r2 s2)[3]? = some (.int .u64 r2) from rfl)
          have kr4 := (hloc.b0.cell 4).trans (show (rv a2 m2 c2 p2 q2 r2 s2)[4]? = some (.int .u64 s2) from rfl)
          have f0 := hloc.b0.frozen 0
          have f1 := hloc.b0.frozen 1
          have f2 := hloc.b0.frozen 2
          have f3 := hloc.b0.frozen 3
          have f4 := hloc.b0.frozen 4
          have nI : (I : Int) < (k : Int) := by omega
          have nD : (D : Int) < (k : Int) := by omega
          have kx0 : ∀ x, ∃ u, (W2.setCell ⟨E, I, none⟩ x).cell? ⟨E, D, none⟩ = some u := fun x => by
            have := (hloc.bE.set_ I x).cell D
            rw [this]
            exact ⟨_, Array.getElem?_eq_getElem (by simp [ints, shufAt_len]; exact hDk)⟩
          have fx0 : ∀ x, (W2.setCell ⟨E, I, none⟩ x).frozen? ⟨E, D, none⟩ = false := fun x => (hloc.bE.set_ I x).frozen D
          have LOC := Lib.hid hloc
          have XT := Lib.hid hx2
          have hEH : E ≠ H := by omega
          have hPE : W.heap.size ≠ E := by omega
          have hPH : W.heap.size ≠ H := by omega
          have hPE1 : W.heap.size + 1 ≠ E := by omega
          have hwE : w.heap.size ≠ E := by omega
          have hz9 : w.heap.size + 1 < E := by omega
          have FIN := Lib.hid (shuf_fin (B := wr.heap.size) (C := wr.heap.size + 1) (I := I) (D := D) ((shufAt k g pre.length).getD D 0) ((shufAt k g pre.length).getD I 0) a' m' c' p' q' r' s' hloc hx2 (by omega) (by omega) (by omega) (by omega))
          have FIN2 := Lib.hid FIN.out.2.2.1
          rw [show ((shufAt k g pre.length).set I ((shufAt k g pre.length).getD D 0)).set D ((shufAt k g pre.length).getD I 0) = shufAt k g (pre.length + 1) by rw [shufAt, HII.out, HDD.out]; rfl] at FIN2
          have FIN2' : (pre ++ [((I : Int), (D : Int), Value.agg #[Value.slice a' m' c', Value.int IntKind.u64 p', Value.int IntKind.u64 q', Value.int IntKind.u64 r', Value.int IntKind.u64 s'])]).length = pre.length + 1 := by simp
          rw [← FIN2'] at FIN2
          have HX2' := HX2
          rw [← FIN2'] at HX2'
          unfold shufEnd at FIN FIN2
          clear hloc hx2 hb8 hb9 FIN2'
          generalize hyi : (shufAt k g pre.length).getD I 0 = yi at *
          generalize hyd : (shufAt k g pre.length).getD D 0 = yd at *
          obtain ⟨ux, kx⟩ := kx0 (.int .i64 yd)
          have fx := fx0 (.int .i64 yd)
          clear kx0 fx0
          have HYI := Lib.hid hyi
          have HYD := Lib.hid hyd
          clear hyi hyd
          gi_wp2
          refine region_round (fun w' => w'.cell? ⟨H, 0, none⟩ = some (.slice (some ⟨E, 0, none⟩) k k) ∧ w'.cell? ⟨W.heap.size, 0, none⟩ = some (.int .i64 I) ∧ w'.cell? ⟨W.heap.size, 1, none⟩ = some (.int .i64 D)) (by kernel_rfl) (by kernel_rfl) (by rintro ⟨a, w, h⟩; exact h) ?_ (fun hHeld => ?_)
          · exact ⟨kh, t0, t1⟩
          change wpAnyH _ _ _ _ _ 20 (Array.replicate 20 false) _ _
          refine wpAnyH_take (i := 0) (v := ?_) rfl (by kernel_rfl) (by kernel_rfl) (by kernel_rfl) (fun _ _ _ h => h) (Or.inl ⟨by kernel_rfl, ?_⟩) (by assumption) ?_
          rotate_left
          · (intro w hSw; (try dsimp only at hSw); obtain ⟨hS0, hS1, hS2⟩ := hSw; go_simp; (try with_reducible rfl))
          (try simp only [List.getElem_toArray, List.getElem_cons_zero, Act.put, List.setIfInBounds_toArray, List.set_cons_zero, List.set_cons_succ])
          refine wpAnyH_take (i := 1) (v := ?_) rfl (by kernel_rfl) (by kernel_rfl) (by kernel_rfl) (fun _ _ _ h => h) (Or.inl ⟨by kernel_rfl, ?_⟩) (by assumption) ?_
          rotate_left
          · (intro w hSw; (try dsimp only at hSw); obtain ⟨hS0, hS1, hS2⟩ := hSw; go_simp; (try with_reducible rfl))
          (try simp only [List.getElem_toArray, List.getElem_cons_succ, List.getElem_cons_zero, Act.put, List.setIfInBounds_toArray, List.set_cons_zero, List.set_cons_succ])
          refine wpAnyH_take (i := 2) (v := ?_) rfl (by kernel_rfl) (by kernel_rfl) (by kernel_rfl) (fun _ _ _ h => h) (Or.inl ⟨by kernel_rfl, ?_⟩) (by assumption) ?_
          rotate_left
          · (intro w hSw; (try dsimp only at hSw); obtain ⟨hS0, hS1, hS2⟩ := hSw; go_simp; (try with_reducible rfl))
          (try simp only [List.getElem_toArray, List.getElem_cons_succ, List.getElem_cons_zero, Act.put, List.setIfInBounds_toArray, List.set_cons_zero, List.set_cons_succ])
          refine wpAnyH_take (i := 3) (v := ?_) rfl (by kernel_rfl) (by kernel_rfl) (by kernel_rfl) (fun _ _ _ h => h) (Or.inl ⟨by kernel_rfl, ?_⟩) (by assumption) ?_
          rotate_left
          · (intro w hSw; (try dsimp only at hSw); obtain ⟨hS0, hS1, hS2⟩ := hSw; go_simp; (try with_reducible rfl))
          (try simp only [List.getElem_toArray, List.getElem_cons_succ, List.getElem_cons_zero, Act.put, List.setIfInBounds_toArray, List.set_cons_zero, List.set_cons_succ])
          refine wpAnyH_take (i := 4) (v := ?_) rfl (by kernel_rfl) (by kernel_rfl) (by kernel_rfl) (fun _ _ _ h => h) (Or.inl ⟨by kernel_rfl, ?_⟩) (by assumption) ?_
          rotate_left
          · (intro w hSw; (try dsimp only at hSw); obtain ⟨hS0, hS1, hS2⟩ := hSw; go_simp; (try with_reducible rfl))
          (try simp only [List.getElem_toArray, List.getElem_cons_succ, List.getElem_cons_zero, Act.put, List.setIfInBounds_toArray, List.set_cons_zero, List.set_cons_succ])
          refine wpAnyH_take (i := 5) (v := ?_) rfl (by kernel_rfl) (by kernel_rfl) (by kernel_rfl) (fun _ _ _ h => h) (Or.inl ⟨by kernel_rfl, ?_⟩) (by assumption) ?_
          rotate_left
          · (intro w hSw; (try dsimp only at hSw); obtain ⟨hS0, hS1, hS2⟩ := hSw; go_simp; (try with_reducible rfl))
          (try simp only [List.getElem_toArray, List.getElem_cons_succ, List.getElem_cons_zero, Act.put, List.setIfInBounds_toArray, List.set_cons_zero, List.set_cons_succ])
          refine wpAnyH_take (i := 6) (v := ?_) rfl (by kernel_rfl) (by kernel_rfl) (by kernel_rfl) (fun _ _ _ h => h) (Or.inl ⟨by kernel_rfl, ?_⟩) (by assumption) ?_
          rotate_left
          · (intro w hSw; (try dsimp only at hSw); obtain ⟨hS0, hS1, hS2⟩ := hSw; go_simp; (try with_reducible rfl))
          (try simp only [List.getElem_toArray, List.getElem_cons_succ, List.getElem_cons_zero, Act.put, List.setIfInBounds_toArray, List.set_cons_zero, List.set_cons_succ])
          refine wpAnyH_take (i := 7) (v := ?_) rfl (by kernel_rfl) (by kernel_rfl) (by kernel_rfl) (fun _ _ _ h => h) (Or.inl ⟨by kernel_rfl, ?_⟩) (by assumption) ?_
          rotate_left
          · (intro w hSw; (try dsimp only at hSw); obtain ⟨hS0, hS1, hS2⟩ := hSw; go_simp; (try with_reducible rfl))
          (try simp only [List.getElem_toArray, List.getElem_cons_succ, List.getElem_cons_zero, Act.put, List.setIfInBounds_toArray, List.set_cons_zero, List.set_cons_succ])
          refine wpAnyH_take (i := 8) (v := ?_) rfl (by kernel_rfl) (by kernel_rfl) (by kernel_rfl) (fun _ _ _ h => h) (Or.inl ⟨by kernel_rfl, ?_⟩) (by assumption) ?_
          rotate_left
          · (intro w hSw; (try dsimp only at hSw); obtain ⟨hS0, hS1, hS2⟩ := hSw; go_simp; (try with_reducible rfl))
          (try simp only [List.getElem_toArray, List.getElem_cons_succ, List.getElem_cons_zero, Act.put, List.setIfInBounds_toArray, List.set_cons_zero, List.set_cons_succ])
          refine wpAnyH_take (i := 9) (v := ?_) rfl (by kernel_rfl) (by kernel_rfl) (by kernel_rfl) (fun _ _ _ h => h) (Or.inl ⟨by kernel_rfl, ?_⟩) (by assumption) ?_
          rotate_left
          · (intro w hSw; (try dsimp only at hSw); obtain ⟨hS0, hS1, hS2⟩ := hSw; go_simp; (try with_reducible rfl))
          (try simp only [List.getElem_toArray, List.getElem_cons_succ, List.getElem_cons_zero, Act.put, List.setIfInBounds_toArray, List.set_cons_zero, List.set_cons_succ])
          refine wpAnyH_take (i := 11) (v := ?_) rfl (by kernel_rfl) (by kernel_rfl) (by kernel_rfl) (fun _ _ _ h => h) (Or.inl ⟨by kernel_rfl, ?_⟩) (by assumption) ?_
          rotate_left
          · (intro w hSw; (try dsimp only at hSw); obtain ⟨hS0, hS1, hS2⟩ := hSw; go_simp; (try with_reducible rfl))
          (try simp only [List.getElem_toArray, List.getElem_cons_succ, List.getElem_cons_zero, Act.put, List.setIfInBounds_toArray, List.set_cons_zero, List.set_cons_succ])
          refine wpAnyH_take (i := 12) (v := ?_) rfl (by kernel_rfl) (by kernel_rfl) (by kernel_rfl) (fun _ _ _ h => h) (Or.inl ⟨by kernel_rfl, ?_⟩) (by assumption) ?_
          rotate_left
          · (intro w hSw; (try dsimp only at hSw); obtain ⟨hS0, hS1, hS2⟩ := hSw; go_simp; (try with_reducible rfl))
          (try simp only [List.getElem_toArray, List.getElem_cons_succ, List.getElem_cons_zero, Act.put, List.setIfInBounds_toArray, List.set_cons_zero, List.set_cons_succ])
          refine wpAnyH_take (i := 13) (v := ?_) rfl (by kernel_rfl) (by kernel_rfl) (by kernel_rfl) (fun _ _ _ h => h) (Or.inl ⟨by kernel_rfl, ?_⟩) (by assumption) ?_
          rotate_left
          · (intro w hSw; (try dsimp only at hSw); obtain ⟨hS0, hS1, hS2⟩ := hSw; go_simp; (try with_reducible rfl))
          (try simp only [List.getElem_toArray, List.getElem_cons_succ, List.getElem_cons_zero, Act.put, List.setIfInBounds_toArray, List.set_cons_zero, List.set_cons_succ])
          refine wpAnyH_take (i := 14) (v := ?_) rfl (by kernel_rfl) (by kernel_rfl) (by kernel_rfl) (fun _ _ _ h => h) (Or.inl ⟨by kernel_rfl, ?_⟩) (by assumption) ?_
          rotate_left
          · (intro w hSw; (try dsimp only at hSw); obtain ⟨hS0, hS1, hS2⟩ := hSw; go_simp; (try with_reducible rfl))
          (try simp only [List.getElem_toArray, List.getElem_cons_succ, List.getElem_cons_zero, Act.put, List.setIfInBounds_toArray, List.set_cons_zero, List.set_cons_succ])
          refine wpAnyH_ready (rs := [10, 15]) (by kernel_rfl) (by simp) ?_
          refine AllReadyH.cons rfl (fun K hK => ?_) (AllReadyH.cons rfl (fun K hK => ?_) AllReadyH.nil)
          · go_simp
            refine hK.out _ _ ?_ (fun hHeld => ?_)
            · (try dsimp only); exact ⟨by simp [go_sem, *], by simp [go_sem, *], by simp [go_sem, *]⟩
            clear hK K
            (try simp only [List.getElem_toArray, List.getElem_cons_succ, List.getElem_cons_zero, Act.put, List.setIfInBounds_toArray, List.set_cons_zero, List.set_cons_succ])
            refine wpAnyH_ready (rs := [15]) (by kernel_rfl) (by simp) ?_
            refine AllReadyH.cons rfl (fun K hK => ?_) AllReadyH.nil
            go_simp
            refine hK.out _ _ ?_ (fun hHeld => ?_)
            · (try dsimp only); exact ⟨by simp [go_sem, *], by simp [go_sem, *], by simp [go_sem, *]⟩
            clear hK K
            (try simp only [List.getElem_toArray, List.getElem_cons_succ, List.getElem_cons_zero, Act.put, List.setIfInBounds_toArray, List.set_cons_zero, List.set_cons_succ])
            refine wpAnyH_take (i := 16) (v := ?_) rfl (by kernel_rfl) (by kernel_rfl) (by kernel_rfl) (fun _ _ _ h => h) (Or.inl ⟨by kernel_rfl, ?_⟩) (by assumption) ?_
            rotate_left
            · (intro w hSw; (try dsimp only at hSw); obtain ⟨hS0, hS1, hS2⟩ := hSw; go_simp; (try with_reducible rfl))
            (try simp only [List.getElem_toArray, List.getElem_cons_succ, List.getElem_cons_zero, Act.put, List.setIfInBounds_toArray, List.set_cons_zero, List.set_cons_succ])
            refine wpAnyH_ready (rs := [17]) (by kernel_rfl) (by simp) ?_
            refine AllReadyH.cons rfl (fun K hK => ?_) AllReadyH.nil
            go_simp
            refine hK.out _ _ ?_ (fun hHeld => ?_)
            · (try dsimp only); exact ⟨by simp [go_sem, *], by simp [go_sem, *], by simp [go_sem, *]⟩
            clear hK K
            (try simp only [List.getElem_toArray, List.getElem_cons_succ, List.getElem_cons_zero, Act.put, List.setIfInBounds_toArray, List.set_cons_zero, List.set_cons_succ])
            refine wpAnyH_take (i := 18) (v := ?_) rfl (by kernel_rfl) (by kernel_rfl) (by kernel_rfl) (fun _ _ _ h => h) (Or.inl ⟨by kernel_rfl, ?_⟩) (by assumption) ?_
            rotate_left
            · (intro w hSw; (try dsimp only at hSw); obtain ⟨hS0, hS1, hS2⟩ := hSw; go_simp; (try with_reducible rfl))
            (try simp only [List.getElem_toArray, List.getElem_cons_succ, List.getElem_cons_zero, Act.put, List.setIfInBounds_toArray, List.set_cons_zero, List.set_cons_succ])
            refine wpAnyH_ready (rs := [19]) (by kernel_rfl) (by simp) ?_
            refine AllReadyH.cons rfl (fun K hK => ?_) AllReadyH.nil
            go_simp
            refine hK.out _ _ ?_ (fun hHeld => ?_)
            · (try dsimp only); exact ⟨by simp [go_sem, *], by simp [go_sem, *], by simp [go_sem, *]⟩
            clear hK K
            (try simp only [List.getElem_toArray, List.getElem_cons_succ, List.getElem_cons_zero, Act.put, List.setIfInBounds_toArray, List.set_cons_zero, List.set_cons_succ])
            refine wpAnyH_done (by kernel_rfl) ?_ _
            repeat gi_step
            exact ends_normal FIN.out.1 FIN.out.2.1 ⟨⟨a', m', c', p', q', r', s', FIN2.out, HX2'.out⟩, FIN.out.2.2.2⟩
          · go_simp
            refine hK.out _ _ ?_ (fun hHeld => ?_)
            · (try dsimp only); exact ⟨by simp [go_sem, *], by simp [go_sem, *], by simp [go_sem, *]⟩
            clear hK K
            (try simp only [List.getElem_toArray, List.getElem_cons_succ, List.getElem_cons_zero, Act.put, List.setIfInBounds_toArray, List.set_cons_zero, List.set_cons_succ])
            refine wpAnyH_ready (rs := [10]) (by kernel_rfl) (by simp) ?_
            refine AllReadyH.cons rfl (fun K hK => ?_) AllReadyH.nil
            go_simp
            refine hK.out _ _ ?_ (fun hHeld => ?_)
            · (try dsimp only); exact ⟨by simp [go_sem, *], by simp [go_sem, *], by simp [go_sem, *]⟩
            clear hK K
            (try simp only [List.getElem_toArray, List.getElem_cons_succ, List.getElem_cons_zero, Act.put, List.setIfInBounds_toArray, List.set_cons_zero, List.set_cons_succ])
            refine wpAnyH_take (i := 16) (v := ?_) rfl (by kernel_rfl) (by kernel_rfl) (by kernel_rfl) (fun _ _ _ h => h) (Or.inl ⟨by kernel_rfl, ?_⟩) (by assumption) ?_
            rotate_left
            · (intro w hSw; (try dsimp only at hSw); obtain ⟨hS0, hS1, hS2⟩ := hSw; go_simp; (try with_reducible rfl))
            (try simp only [List.getElem_toArray, List.getElem_cons_succ, List.getElem_cons_zero, Act.put, List.setIfInBounds_toArray, List.set_cons_zero, List.set_cons_succ])
            refine wpAnyH_ready (rs := [17]) (by kernel_rfl) (by simp) ?_
            refine AllReadyH.cons rfl (fun K hK => ?_) AllReadyH.nil
            go_simp
            refine hK.out _ _ ?_ (fun hHeld => ?_)
            · (try dsimp only); exact ⟨by simp [go_sem, *], by simp [go_sem, *], by simp [go_sem, *]⟩
            clear hK K
            (try simp only [List.getElem_toArray, List.getElem_cons_succ, List.getElem_cons_zero, Act.put, List.setIfInBounds_toArray, List.set_cons_zero, List.set_cons_succ])
            refine wpAnyH_take (i := 18) (v := ?_) rfl (by kernel_rfl) (by kernel_rfl) (by kernel_rfl) (fun _ _ _ h => h) (Or.inl ⟨by kernel_rfl, ?_⟩) (by assumption) ?_
            rotate_left
            · (intro w hSw; (try dsimp only at hSw); obtain ⟨hS0, hS1, hS2⟩ := hSw; go_simp; (try with_reducible rfl))
            (try simp only [List.getElem_toArray, List.getElem_cons_succ, List.getElem_cons_zero, Act.put, List.setIfInBounds_toArray, List.set_cons_zero, List.set_cons_succ])
            refine wpAnyH_ready (rs := [19]) (by kernel_rfl) (by simp) ?_
            refine AllReadyH.cons rfl (fun K hK => ?_) AllReadyH.nil
            go_simp
            refine hK.out _ _ ?_ (fun hHeld => ?_)
            · (try dsimp only); exact ⟨by simp [go_sem, *], by simp [go_sem, *], by simp [go_sem, *]⟩
            clear hK K
            (try simp only [List.getElem_toArray, List.getElem_cons_succ, List.getElem_cons_zero, Act.put, List.setIfInBounds_toArray, List.set_cons_zero, List.set_cons_succ])
            refine wpAnyH_done (by kernel_rfl) ?_ _
            repeat gi_step
            exact ends_normal FIN.out.1 FIN.out.2.1 ⟨⟨a', m', c', p', q', r', s', FIN2.out, HX2'.out⟩, FIN.out.2.2.2⟩
      case done =>
        rintro Dn xs W hD ⟨hS1, hS2⟩ ⟨⟨a', m', c', p', q', r', s', hloc, hr'⟩, hx⟩ hK
        obtain hxs : xs.length = k - 1 := by omega
        rw [hxs] at hloc hr'
        have HR2 := Lib.hid hr'
        have k0 := (hloc.b0.cell 0).trans (show (rv a' m' c' p' q' r' s')[0]? = some (.slice a' m' c') from rfl)
        have k1 := (hloc.b0.cell 1).trans (show (rv a' m' c' p' q' r' s')[1]? = some (.int .u64 p') from rfl)
        have k2 := (hloc.b0.cell 2).trans (show (rv a' m' c' p' q' r' s')[2]? = some (.int .u64 q') from rfl)
        have k3 := (hloc.b0.cell 3).trans (show (rv a' m' c' p' q' r' s')[3]? = some (.int .u64 r') from rfl)
        have k4 := (hloc.b0.cell 4).trans (show (rv a' m' c' p' q' r' s')[4]? = some (.int .u64 s') from rfl)
        have j0 := (hloc.b1.cell 0).trans (show (rv none 0 0 0 0 0 0)[0]? = some (.slice none 0 0) from rfl)
        have j1 := (hloc.b1.cell 1).trans (show (rv none 0 0 0 0 0 0)[1]? = some (.int .u64 0) from rfl)
        have j2 := (hloc.b1.cell 2).trans (show (rv none 0 0 0 0 0 0)[2]? = some (.int .u64 0) from rfl)
        have j3 := (hloc.b1.cell 3).trans (show (rv none 0 0 0 0 0 0)[3]? = some (.int .u64 0) from rfl)
        have j4 := (hloc.b1.cell 4).trans (show (rv none 0 0 0 0 0 0)[4]? = some (.int .u64 0) from rfl)
        have f0 := hloc.b1.frozen 0
        have f1 := hloc.b1.frozen 1
        have f2 := hloc.b1.frozen 2
        have f3 := hloc.b1.frozen 3
        have f4 := hloc.b1.frozen 4
        have kh := (hloc.bH.cell 0).trans (show (#[Value.slice (some ⟨E, 0, none⟩) k k] : Array Value)[0]? = some (.slice (some ⟨E, 0, none⟩) k k) from rfl)
        have LOC := Lib.hid hloc
        have HK := Lib.hid hK
        have lt0 := hloc.b0.lt
        have lt1 := hloc.b1.lt
        have ltH := hloc.bH.lt
        clear hloc hr' hK hS1 hS2 hxs
        go_wp2_with fail
        refine wp_endOnly ?_
        go_region_with (go_at_call 121; refine (OWN.out _ _ HR2.out Ext.q).mono ?_; rintro e v6 ⟨a6, m6, l6, p6, q6, r6, s6, rfl, x6, n6⟩; obtain ⟨c6, f6⟩ := x6.rules; have z6 := x6.size; have lq := fun o => c6 (w.heap.size) o (by first | (simp; done) | (simp; omega) | omega); have mq := fun o => f6 (w.heap.size) o (by first | (simp; done) | (simp; omega) | omega); have k6_0_0 := lq 0; have q6_0_0 := mq 0; have k6_0_1 := lq 1; have q6_0_1 := mq 1; have k6_0_2 := lq 2; have q6_0_2 := mq 2; have k6_0_3 := lq 3; have q6_0_3 := mq 3; have k6_0_4 := lq 4; have q6_0_4 := mq 4; clear lq mq; have lq := fun o => c6 (w.heap.size + 1) o (by first | (simp; done) | (simp; omega) | omega); have mq := fun o => f6 (w.heap.size + 1) o (by first | (simp; done) | (simp; omega) | omega); have k6_1_0 := lq 0; have q6_1_0 := mq 0; have k6_1_1 := lq 1; have q6_1_1 := mq 1; have k6_1_2 := lq 2; have q6_1_2 := mq 2; have k6_1_3 := lq 3; have q6_1_3 := mq 3; have k6_1_4 := lq 4; have q6_1_4 := mq 4; clear lq mq; have k6_H_0 := c6 (H) 0 (by first | (simp; done) | (simp; omega) | omega); have q6_H_0 := f6 (H) 0 (by first | (simp; done) | (simp; omega) | omega); have z6_0 : w.heap.size < v6.heap.size := (by (try simp at z6); omega); have z6_1 : w.heap.size + 1 < v6.heap.size := (by (try simp at z6); omega); have z6_H : H < v6.heap.size := (by (try simp at z6); omega); (try simp at z6); clear c6 f6; simp [go_sem, *] at k6_0_0 q6_0_0 k6_0_1 q6_0_1 k6_0_2 q6_0_2 k6_0_3 q6_0_3 k6_0_4 q6_0_4 k6_1_0 q6_1_0 k6_1_1 q6_1_1 k6_1_2 q6_1_2 k6_1_3 q6_1_3 k6_1_4 q6_1_4 k6_H_0 q6_H_0)
        all_goals
          refine EndOnly.mk ?_
          go_wp2_with fail
          have hDw : Dn < W.heap.size := (Array.getElem?_eq_some_iff.1 HK.out).1
          have hD1 : w.heap.size + 1 < Dn := by simp at hD; omega
          have hDE : E < Dn := by simp at hD; omega
          obtain ⟨Wf, hWf⟩ : ∃ Wf, Wf = (((((v6.setCell ⟨w.heap.size + 1, 0, none⟩ (.slice a6 m6 l6)).setCell ⟨w.heap.size + 1, 1, none⟩ (.int .u64 p6)).setCell ⟨w.heap.size + 1, 2, none⟩ (.int .u64 q6)).setCell ⟨w.heap.size + 1, 3, none⟩ (.int .u64 r6)).setCell ⟨w.heap.size + 1, 4, none⟩ (.int .u64 s6)) := ⟨_, rfl⟩
          have bf : Blk Wf (w.heap.size + 1) 62 (rv a6 m6 l6 p6 q6 r6 s6) := by
            rw [hWf]; exact (((((LOC.out.b1.drew.ext x6).set_ 0 _).set_ 1 _).set_ 2 _).set_ 3 _).set_ 4 _
          have bE : Blk Wf E 3 (ints (shufAt k g (k - 1))) := by
            rw [hWf]; exact (((((LOC.out.bE.drew.ext x6).far (by simp; omega) _).far (by simp; omega) _).far (by simp; omega) _).far (by simp; omega) _).far (by simp; omega) _
          have nf := n6.out.set5 (b := w.heap.size + 1) (by simp; omega) (.slice a6 m6 l6) (.int .u64 p6) (.int .u64 q6) (.int .u64 r6) (.int .u64 s6)
          rw [← hWf] at nf
          have hne : Dn ≠ w.heap.size + 1 := by omega
          have hKf : Wf.heap[Dn]? = some (.deferred (some [])) := by
            rw [hWf]
            exact (Below.heap_setCell _ _ _ Dn hne).trans ((Below.heap_setCell _ _ _ Dn hne).trans ((Below.heap_setCell _ _ _ Dn hne).trans ((Below.heap_setCell _ _ _ Dn hne).trans ((Below.heap_setCell _ _ _ Dn hne).trans ((x6.block Dn hDw).trans HK.out)))))
          have xf : Ext w Wf := by rw [hWf]; exact own_ext5 Ext.q (by omega) _ _ _ _ _
          rw [← hWf]
          clear hWf k0 k1 k2 k3 k4 j0 j1 j2 j3 j4 f0 f1 f2 f3 f4 kh
          have XF : Ext w (Wf.putObj Dn (.deferred none)) := xf.trans (belowK_b (w := w) (Nat.le_refl _) Wf Dn _ _ (by omega) hKf rfl rfl)
          have bp : Blk (Wf.putObj Dn (.deferred none)) (w.heap.size + 1) 62 (rv a6 m6 l6 p6 q6 r6 s6) := (World.putObj_heap_other (fun e => hne e.symm)).trans bf
          have bq : Blk (Wf.putObj Dn (.deferred none)) E 3 (ints (shufAt k g (k - 1))) := (World.putObj_heap_other (by omega)).trans bE
          have nq := nf.put (l := Dn) (by simpa using hDw) (.deferred none)
          have k0 := (bp.cell 0).trans (show (rv a6 m6 l6 p6 q6 r6 s6)[0]? = some (.slice a6 m6 l6) from rfl)
          have k1 := (bp.cell 1).trans (show (rv a6 m6 l6 p6 q6 r6 s6)[1]? = some (.int .u64 p6) from rfl)
          have k2 := (bp.cell 2).trans (show (rv a6 m6 l6 p6 q6 r6 s6)[2]? = some (.int .u64 q6) from rfl)
          have k3 := (bp.cell 3).trans (show (rv a6 m6 l6 p6 q6 r6 s6)[3]? = some (.int .u64 r6) from rfl)
          have k4 := (bp.cell 4).trans (show (rv a6 m6 l6 p6 q6 r6 s6)[4]? = some (.int .u64 s6) from rfl)
          change bodyPostM _ _ _ _ _ _ _ _
          refine ⟨by simp, .inl ⟨_, _, rfl, run_takeDeferred hKf, ?_⟩⟩
          generalize Wf.putObj Dn (.deferred none) = Wp at *
          refine ⟨.tuple #[.slice (some ⟨E, 0, none⟩) k k, .agg (rv a6 m6 l6 p6 q6 r6 s6), .int .i64 0], ?_, _, _, rfl, XF, bq, by omega, nq.base (by simp; omega)⟩
          simp [results, Tryz.results35, go_sem, k0, k1, k2, k3, k4, rv]
      case stop => exact fun D c' pre W hD hp h => h.elim
theorem shuffle_any {n : Nat} {g : Gen} {v : Value} {w : World} (h : RandAt w v g) (hf : g.Fine) (n1 : 1 ≤ n) (n2 : n ≤ 65536) (hFew : ∀ j : Int, 1 ≤ j → j ≤ n → Few j) :
    Calls Tryz.prog 35 #[v, .int .i64 n] w fun e w' => ∃ o v', e = .returned (.tuple #[o, v', .int .i64 0]) ∧ Ext w w' ∧ Row .i64 w' o (shufAt n g (n - 1)) ∧ RandAt w' v' (g.turn n (n - 1)) :=
  (shuffle_new h hf n1 n2 hFew).mono (by
    rintro e w' ⟨E, v', rfl, x, b, -, r⟩
    exact ⟨_, v', rfl, x, Row.of_blk b (shufAt_len _ _ _) (by unfold maxLen; omega), r.at⟩)
end Go.Proofs.YtkegefnpmijfiaaGreat
