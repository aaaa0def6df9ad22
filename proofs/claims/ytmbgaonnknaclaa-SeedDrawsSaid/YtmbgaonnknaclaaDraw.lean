/- rng.Draw: the first draw that is not refused. -/
import Derived.Test.YtmbgaonnknaclaaDraws
import Derived.Test.YtmbgaonnknaclaaBlk
import Derived.Test.YtmbgaonnknaclaaGrown
namespace Go.Proofs.Ytmbgaonnknaclaa
open Go.RowKit Go.Shelf
attribute [local go_sem] Oper.semAt_some
/-- 2^64 modulo n. -/
def left64 (n : Int) : Int := 18446744073709551616 % n
def Refused (n x : Int) : Prop := left64 n ≠ 0 ∧ 18446744073709551616 - left64 n ≤ x
theorem left64_eq (n : Int) : (18446744073709551615 % n + 1) % n = left64 n := by
  unfold left64
  rw [Int.emod_add_emod]; rfl
theorem left64_bd {n : Int} (h0 : 0 < n) : 0 ≤ left64 n ∧ left64 n < n := ⟨Int.emod_nonneg _ (by omega), Int.emod_lt_of_pos _ h0⟩
theorem draws_any (a : Option Addr) (m c : Nat) (p q r s : Int) (w : World) :
    Calls Try.prog 98 #[.agg #[.slice a m c, .int .u64 p, .int .u64 q, .int .u64 r, .int .u64 s]] w fun e w' => e = .returned (.func (.func 137) #[] #[.pointer (some ⟨w.heap.size, 0, none⟩)]) ∧ w' = w.alloc (.cells #[.slice a m c, .int .u64 p, .int .u64 q, .int .u64 r, .int .u64 s] 27) := by
  go_enter Try.func98, Try.ntmps98
  go_wp2
  go_ret
  exact ⟨rfl, rfl⟩
/-- A generator's value. -/
def rv (a : Option Addr) (m c : Nat) (p q r s : Int) : Array Value := #[.slice a m c, .int .u64 p, .int .u64 q, .int .u64 r, .int .u64 s]
/-- What Draw's own blocks hold: the generator, n, the result's room, left, y. -/
structure DrawLoc (w W : World) (n L y : Int) (a : Option Addr) (m c : Nat) (p q r s : Int) : Prop where
  b0 : Blk W w.heap.size 27 (rv a m c p q r s)
  b1 : Blk W (w.heap.size + 1) 24 #[.int .u64 n]
  b2 : Blk W (w.heap.size + 1 + 1) 27 (rv none 0 0 0 0 0 0)
  b3 : Blk W (w.heap.size + 1 + 1 + 1) 24 #[.int .u64 L]
  b4 : Blk W (w.heap.size + 1 + 1 + 1 + 1) 24 #[.int .u64 y]
section
variable {w W W' : World} {n L y : Int} {a : Option Addr} {m c : Nat} {p q r s : Int}
theorem DrawLoc.kept (h : DrawLoc w W n L y a m c p q r s) {row : Option Nat} (hb : W.grownBy W' row) (hrow : ∀ r, row = some r → ∃ o : Obj, W.heap[r]? = some o ∧ o.isCells = false) : DrawLoc w W' n L y a m c p q r s :=
  ⟨h.b0.kept hb hrow, h.b1.kept hb hrow, h.b2.kept hb hrow, h.b3.kept hb hrow, h.b4.kept hb hrow⟩
theorem DrawLoc.grown (h : DrawLoc w W n L y a m c p q r s) {B : Nat} (hb : W.grownBy W' (some B)) (hB : w.heap.size + 1 + 1 + 1 + 1 < B) : DrawLoc w W' n L y a m c p q r s :=
  ⟨h.b0.grown hb (by simp; omega), h.b1.grown hb (by simp; omega), h.b2.grown hb (by simp; omega), h.b3.grown hb (by simp; omega), h.b4.grown hb (by simp; omega)⟩
theorem DrawLoc.ext (h : DrawLoc w W n L y a m c p q r s) (x : Ext W W') : DrawLoc w W' n L y a m c p q r s :=
  ⟨h.b0.ext x, h.b1.ext x, h.b2.ext x, h.b3.ext x, h.b4.ext x⟩
end
theorem draw_end {w W : World} {n L y : Int} {a a' : Option Addr} {m c m' c' : Nat} {p q r s p' q' r' s' : Int} (Y : Int) (h : DrawLoc w W n L y a m c p q r s) :
    DrawLoc w ((((((W.setCell ⟨w.heap.size + 1 + 1 + 1 + 1, 0, none⟩ (.int .u64 Y)).setCell ⟨w.heap.size, 0, none⟩ (.slice a' m' c')).setCell ⟨w.heap.size, 1, none⟩ (.int .u64 p')).setCell ⟨w.heap.size, 2, none⟩ (.int .u64 q')).setCell ⟨w.heap.size, 3, none⟩ (.int .u64 r')).setCell ⟨w.heap.size, 4, none⟩ (.int .u64 s')).drew n L Y a' m' c' p' q' r' s' :=
  ⟨((((((h.b0.far (by simp <;> omega) _).set_ 0 _).set_ 1 _).set_ 2 _).set_ 3 _).set_ 4 _).drew,
   ((((((h.b1.far (by simp <;> omega) _).far (by simp <;> omega) _).far (by simp <;> omega) _).far (by simp <;> omega) _).far (by simp <;> omega) _).far (by simp <;> omega) _).drew,
   ((((((h.b2.far (by simp <;> omega) _).far (by simp <;> omega) _).far (by simp <;> omega) _).far (by simp <;> omega) _).far (by simp <;> omega) _).far (by simp <;> omega) _).drew,
   ((((((h.b3.far (by simp <;> omega) _).far (by simp <;> omega) _).far (by simp <;> omega) _).far (by simp <;> omega) _).far (by simp <;> omega) _).far (by simp <;> omega) _).drew,
   ((((((h.b4.set_ 0 _).far (by simp <;> omega) _).far (by simp <;> omega) _).far (by simp <;> omega) _).far (by simp <;> omega) _).far (by simp <;> omega) _).drew⟩
theorem keeps_drew (W : World) : KeepsOthers W W.drew := ⟨Nat.le_refl _, fun _ _ h _ => h⟩
theorem draw_keeps (w W : World) (v0 v1 v2 v3 v4 v5 : Value) : KeepsOthers W ((((((W.setCell ⟨w.heap.size + 1 + 1 + 1 + 1, 0, none⟩ v0).setCell ⟨w.heap.size, 0, none⟩ v1).setCell ⟨w.heap.size, 1, none⟩ v2).setCell ⟨w.heap.size, 2, none⟩ v3).setCell ⟨w.heap.size, 3, none⟩ v4).setCell ⟨w.heap.size, 4, none⟩ v5).drew :=
  ((((((KeepsOthers.setCell _ _ _).trans (KeepsOthers.setCell _ _ _)).trans (KeepsOthers.setCell _ _ _)).trans (KeepsOthers.setCell _ _ _)).trans (KeepsOthers.setCell _ _ _)).trans (KeepsOthers.setCell _ _ _)).trans (keeps_drew _)
theorem draw_ext {w W : World} (v0 v1 v2 v3 v4 v5 : Value) (hext : Ext w W) : Ext w ((((((W.setCell ⟨w.heap.size + 1 + 1 + 1 + 1, 0, none⟩ v0).setCell ⟨w.heap.size, 0, none⟩ v1).setCell ⟨w.heap.size, 1, none⟩ v2).setCell ⟨w.heap.size, 2, none⟩ v3).setCell ⟨w.heap.size, 3, none⟩ v4).setCell ⟨w.heap.size, 4, none⟩ v5).drew := (by repeat (first | with_reducible exact Ext.refl _ | with_reducible apply Ext.drew | with_reducible apply Ext.drewN | with_reducible apply Ext.alloc | ((with_reducible refine Ext.setCell ?_ ?_ _); rotate_left; focus (first | (simp; done) | (simp; omega) | omega)) | with_reducible refine Ext.tr ?_ x1 | with_reducible refine Ext.tr ?_ x2 | with_reducible refine Ext.tr ?_ xf | with_reducible refine Ext.tr ?_ hx | with_reducible refine Ext.tr ?_ hext | with_reducible assumption))
theorem ends_exit {α : Type} {Kp : World → World → Prop} {I : List α → World → Prop} {Ix : Code → List α → World → Prop} {xs : List α} {W W' : World} {a : Act} {id : Nat} (h : KeepsOthers W W') (k : Ix (.exit id) xs W') : roundEnds Kp I Ix xs W (.exit id) a W' := ⟨h, k⟩
theorem ends_normal {α : Type} {Kp : World → World → Prop} {I : List α → World → Prop} {Ix : Code → List α → World → Prop} {xs : List α} {W W' : World} {a : Act} (h : KeepsOthers W W') (k : Kp W W') (l : I xs W') : roundEnds Kp I Ix xs W .normal a W' := ⟨h, k, l⟩
theorem KeptD.trans {w : World} {B : Nat} {X Y Z : World} (h : KeptD w B X Y) (k : KeptD w B Y Z) : KeptD w B X Z :=
  ⟨Nat.le_trans h.1 k.1, k.2.1.trans h.2.1, fun i hi => (k.2.2 i hi).trans (h.2.2 i hi)⟩
theorem KeptD.put {w : World} {B l : Nat} (W : World) {o : Obj} (hB : B ≠ l) (hl : w.heap.size ≤ l) : KeptD w B W (W.putObj l o) :=
  ⟨by simp, World.putObj_heap_other hB, fun k hk => World.putObj_heap_other (by omega)⟩
theorem KeptD.ext {w : World} {B : Nat} {W W' : World} (x : Ext W W') (hB : B < W.heap.size) (hw : w.heap.size ≤ W.heap.size) : KeptD w B W W' :=
  ⟨x.size, x.block B hB, fun k hk => x.block k (by omega)⟩
theorem KeptD.set {w : World} {B g o : Nat} (W : World) {v : Value} (hB : B ≠ g) (hg : w.heap.size ≤ g) : KeptD w B W (W.setCell ⟨g, o, none⟩ v) :=
  ⟨(KeepsWalks.setCell W _ v).size, Below.heap_setCell W _ v B hB, fun k hk => Below.heap_setCell W _ v k (fun e => by have : k = g := e; omega)⟩
theorem OldAs.lt {w0 w : World} (h : OldAs w0 w) {k : Nat} (hk : k < w0.heap.size) : k < w.heap.size := by
  rcases Nat.lt_or_ge k w.heap.size with hlt | hge
  · exact hlt
  · have := h k hk
    rw [Array.getElem?_eq_none hge, Array.getElem?_eq_getElem hk] at this
    cases this
theorem OldAs.le {w0 w : World} (h : OldAs w0 w) : w0.heap.size ≤ w.heap.size := by
  rcases Nat.eq_zero_or_pos w0.heap.size with h0 | h0
  · omega
  · have := h.lt (k := w0.heap.size - 1) (by omega); omega
theorem OldAs.ext {w0 w W : World} (h : OldAs w0 w) (x : Ext w W) : OldAs w0 W := fun k hk => (x.block k (OldAs.lt h hk)).trans (h k hk)
set_option maxHeartbeats 1000000 in
set_option maxRecDepth 100000 in
theorem draw_any (n : Int) (g : Gen) (v : Value) (w0 w : World) (h : RandAt w0 v g) (ho : OldAs w0 w) (n0 : 0 < n) (n1 : n < 18446744073709551616) (vnn : ∀ k, 0 ≤ g.val k) (N : Nat) (hN : ∀ k, (∀ j, j < k → Refused n (g.val j)) → k ≤ N) :
    Calls Try.prog 56 #[v, .int .u64 n] w fun e w' => ∃ k v', (∀ j, j < k → Refused n (g.val j)) ∧ ¬ Refused n (g.val k) ∧ e = .returned (.tuple #[.int .u64 (g.val k % n), v']) ∧ Ext w w' ∧ RandAt w0 v' (g.after (k + 1)) := by
  have hw0 := ho.le
  have HO := Lib.hid ho
  clear ho
  have HR := Lib.hid h
  have VN := Lib.hid vnn
  have HN := Lib.hid hN
  clear hN vnn
  obtain ⟨a, m, c, p, q, r, s, rfl, -⟩ := h.form
  clear h
  obtain ⟨A, hA, A0, A1⟩ : ∃ A, 18446744073709551615 % n = A ∧ 0 ≤ A ∧ A < n := ⟨_, rfl, Int.emod_nonneg _ (by omega), Int.emod_lt_of_pos _ n0⟩
  have w1 : IntKind.u64.wrap (A + 1) = A + 1 := by rw [IntKind.wrap_u64]; omega
  obtain ⟨L, hL⟩ : ∃ L, (A + 1) % n = L := ⟨_, rfl⟩
  have LE := Lib.hid (left64_eq n)
  refine (callsIn_wide (n := 10)).1 ?_
  refine callsIn_of_wp_marks Try.func56 rfl trivial ?_
  simp only [Try.ntmps56, List.size_toArray, List.length_cons, List.length_nil, Nat.reduceAdd, Nat.reduceSub, Array.replicate_succ, Array.replicate_zero, List.push_toArray, List.append_toArray, List.nil_append, List.cons_append]
  refine wpIn_wide.2 ?_
  go_wp2_with fail
  go_step3
  go_wp2_with fail
  go_region
  go_wp2_with fail
  go_step3
  go_wp2_with fail
  refine (draws_any a m c p q r s _).mono ?_
  rintro e v1 ⟨rfl, rfl⟩
  go_wp2_with fail
  refine (wpIn_wide (n := 10)).1 ?_
  obtain ⟨M, hM⟩ : ∃ M, IntKind.u64.wrap (-L) = M := ⟨_, rfl⟩
  have HM := Lib.hid hM
  have HL : Hid (left64 n = L) := Lib.hid (by rw [← LE.out, hA, hL])
  clear hM hL hA w1 LE
  refine range_iter rfl (by omega) (gf := 137) (lb := #[.pointer (some ⟨w.heap.size + 1 + 1 + 1 + 1 + 1, 0, none⟩)]) rfl trivial (enters_of Try.func137 (by kernel_rfl) rfl)
    (draws_iter 9 (by omega) (w.heap.size + 1 + 1 + 1 + 1 + 1) N g w0 _ a m c p q r s HR.out (HO.out.ext (by repeat (first | with_reducible exact Ext.refl _ | with_reducible apply Ext.drew | with_reducible apply Ext.drewN | with_reducible apply Ext.alloc | ((with_reducible refine Ext.setCell ?_ ?_ _); rotate_left; focus (first | (simp; done) | (simp; omega) | omega)) | with_reducible refine Ext.tr ?_ x1 | with_reducible refine Ext.tr ?_ x2 | with_reducible refine Ext.tr ?_ xf | with_reducible refine Ext.tr ?_ hx | with_reducible refine Ext.tr ?_ hext | with_reducible assumption))) (by omega) (by simp) ⟨by simp [go_sem], by simp [go_sem], by simp [go_sem], by simp [go_sem], by simp [go_sem], by simp [go_sem], by simp [go_sem], by simp [go_sem], by simp [go_sem], by simp [go_sem]⟩) (by simp)
    (fun h k => h.trans k) (fun W l o hl => KeptD.put W (by simp at hl; omega) (by simp at hl; omega)) (fun W o hl => KeptD.ext (Ext.alloc (Ext.refl _) _) (by simp at hl; omega) (by simp at hl; omega)) (fun _ => rfl)
    (fun pre W => ((∀ j, j < pre.length → Refused n (g.val j)) ∧ DrawLoc w W n L 0 a m c p q r s) ∧ Ext w W)
    (fun c' pre W => (c' = Code.exit 0 ∧ ∃ (k : Nat) (a' : Option Addr) (m' c' : Nat) (p' q' r' s' : Int), (∀ j, j < k → Refused n (g.val j)) ∧ ¬ Refused n (g.val k) ∧ RandAt w0 (.agg (rv a' m' c' p' q' r' s')) (g.after (k + 1)) ∧ DrawLoc w W n L (g.val k % n) a' m' c' p' q' r' s') ∧ Ext w W)
    (OwnFrom.and (fun s A B row hs hg hr => ⟨hs.1, hs.2.kept hg (fun r e => (hr r e).2)⟩) (ownFrom_below (Nat.le_refl _) (by simp; omega)))
    (fun c' => OwnFrom.and (fun s A B row hs hg hr => by
      obtain ⟨rfl, k, a', m', c', p', q', r', s', h1, h2, h3, h4⟩ := hs
      exact ⟨rfl, k, a', m', c', p', q', r', s', h1, h2, h3, h4.kept hg (fun r e => (hr r e).2)⟩) (ownFrom_below (Nat.le_refl _) (by simp; omega)))
    (fun s A B hs hg => ⟨⟨hs.1.1, hs.1.2.grown hg (by omega)⟩, Ext.grown hs.2 hg (fun k e => by cases e; omega)⟩)
    (fun c' s A B hs hg => by
      obtain ⟨⟨rfl, k, a', m', c', p', q', r', s', h1, h2, h3, h4⟩, hx⟩ := hs
      exact ⟨⟨rfl, k, a', m', c', p', q', r', s', h1, h2, h3, h4.grown hg (by omega)⟩, Ext.grown hx hg (fun k e => by cases e; omega)⟩)
    ⟨⟨fun j hj => by simp at hj, ⟨by simpa [rv] using ((((((Blk.new w _ _).alloc _).alloc _).alloc _).alloc _).alloc _).drew, by simpa using (((((Blk.new (w.alloc _) _ _).alloc _).alloc _).alloc _).alloc _).drew, by simpa [rv] using ((((Blk.new ((w.alloc _).alloc _) _ _).alloc _).alloc _).alloc _).drew, by simpa using (((Blk.new (((w.alloc _).alloc _).alloc _) _ _).alloc _).alloc _).drew, by simpa using ((Blk.new ((((w.alloc _).alloc _).alloc _).alloc _) _ _).alloc _).drew⟩⟩, (by repeat (first | with_reducible exact Ext.refl _ | with_reducible apply Ext.drew | with_reducible apply Ext.drewN | with_reducible apply Ext.alloc | ((with_reducible refine Ext.setCell ?_ ?_ _); rotate_left; focus (first | (simp; done) | (simp; omega) | omega)) | with_reducible refine Ext.tr ?_ x1 | with_reducible refine Ext.tr ?_ x2 | with_reducible refine Ext.tr ?_ xf | with_reducible refine Ext.tr ?_ hx | with_reducible refine Ext.tr ?_ hext | with_reducible assumption))⟩
    (fun pre W hp hi => HN.out _ hi.1.1) ?round ?done ?stop
  case round =>
    intro l pre x W hsz hp hi
    obtain ⟨hx1, hx2⟩ := hp pre.length x (by simp)
    obtain ⟨x1, x2⟩ := x
    simp only at hx1 hx2
    obtain ⟨a', m', c', p', q', r', s', rfl, hm'⟩ := hx2.form
    have HX1 := Lib.hid hx1
    have HX2 := Lib.hid hx2
    have HI := Lib.hid hi
    have hsz' : w.heap.size + 1 + 1 + 1 + 1 + 1 < W.heap.size := by simp at hsz; omega
    clear hx1 hx2 hi hsz hp hm'
    gi_wp2
    refine ⟨Ext.keeps (by repeat (first | with_reducible exact Ext.refl _ | with_reducible apply Ext.drew | with_reducible apply Ext.drewN | with_reducible apply Ext.alloc | ((with_reducible refine Ext.setCell ?_ ?_ _); rotate_left; focus (first | (simp; done) | (simp; omega) | omega)) | with_reducible refine Ext.tr ?_ x1 | with_reducible refine Ext.tr ?_ x2 | with_reducible refine Ext.tr ?_ xf | with_reducible refine Ext.tr ?_ hx | with_reducible refine Ext.tr ?_ hext | with_reducible assumption)), KeptD.ext (show Ext W _ from (by repeat (first | with_reducible exact Ext.refl _ | with_reducible apply Ext.drew | with_reducible apply Ext.drewN | with_reducible apply Ext.alloc | ((with_reducible refine Ext.setCell ?_ ?_ _); rotate_left; focus (first | (simp; done) | (simp; omega) | omega)) | with_reducible refine Ext.tr ?_ x1 | with_reducible refine Ext.tr ?_ x2 | with_reducible refine Ext.tr ?_ xf | with_reducible refine Ext.tr ?_ hx | with_reducible refine Ext.tr ?_ hext | with_reducible assumption))) (by omega) (by omega), ⟨⟨HI.out.1.1, HI.out.1.2.ext (by repeat (first | with_reducible exact Ext.refl _ | with_reducible apply Ext.drew | with_reducible apply Ext.drewN | with_reducible apply Ext.alloc | ((with_reducible refine Ext.setCell ?_ ?_ _); rotate_left; focus (first | (simp; done) | (simp; omega) | omega)) | with_reducible refine Ext.tr ?_ x1 | with_reducible refine Ext.tr ?_ x2 | with_reducible refine Ext.tr ?_ xf | with_reducible refine Ext.tr ?_ hx | with_reducible refine Ext.tr ?_ hext | with_reducible assumption))⟩, Ext.tr HI.out.2 (by repeat (first | with_reducible exact Ext.refl _ | with_reducible apply Ext.drew | with_reducible apply Ext.drewN | with_reducible apply Ext.alloc | ((with_reducible refine Ext.setCell ?_ ?_ _); rotate_left; focus (first | (simp; done) | (simp; omega) | omega)) | with_reducible refine Ext.tr ?_ x1 | with_reducible refine Ext.tr ?_ x2 | with_reducible refine Ext.tr ?_ xf | with_reducible refine Ext.tr ?_ hx | with_reducible refine Ext.tr ?_ hext | with_reducible assumption))⟩, fun Y => Blk Y W.heap.size 27 (rv a' m' c' p' q' r' s'), fun _ A B row hs hg hr => hs.kept hg (fun r e => (hr r e).2), Blk.new _ _ _, fun W2 hlt hi2 hb9 => ?_⟩
    obtain ⟨⟨href, hloc⟩, hext⟩ := hi2
    have k0 := (hb9.cell 0).trans (show (rv a' m' c' p' q' r' s')[0]? = some (.slice a' m' c') from rfl)
    have k1 := (hb9.cell 1).trans (show (rv a' m' c' p' q' r' s')[1]? = some (.int .u64 p') from rfl)
    have k2 := (hb9.cell 2).trans (show (rv a' m' c' p' q' r' s')[2]? = some (.int .u64 q') from rfl)
    have k3 := (hb9.cell 3).trans (show (rv a' m' c' p' q' r' s')[3]? = some (.int .u64 r') from rfl)
    have k4 := (hb9.cell 4).trans (show (rv a' m' c' p' q' r' s')[4]? = some (.int .u64 s') from rfl)
    have kn := (hloc.b1.cell 0).trans (show (#[Value.int .u64 n] : Array Value)[0]? = some (.int .u64 n) from rfl)
    have kL := (hloc.b3.cell 0).trans (show (#[Value.int .u64 L] : Array Value)[0]? = some (.int .u64 L) from rfl)
    have ky := (hloc.b4.cell 0).trans (show (#[Value.int .u64 0] : Array Value)[0]? = some (.int .u64 0) from rfl)
    have kr0 := (hloc.b0.cell 0).trans (show (rv a m c p q r s)[0]? = some (.slice a m c) from rfl)
    have kr1 := (hloc.b0.cell 1).trans (show (rv a m c p q r s)[1]? = some (.int .u64 p) from rfl)
    have kr2 := (hloc.b0.cell 2).trans (show (rv a m c p q r s)[2]? = some (.int .u64 q) from rfl)
    have kr3 := (hloc.b0.cell 3).trans (show (rv a m c p q r s)[3]? = some (.int .u64 r) from rfl)
    have kr4 := (hloc.b0.cell 4).trans (show (rv a m c p q r s)[4]? = some (.int .u64 s) from rfl)
    have fy := hloc.b4.frozen 0
    have f0 := hloc.b0.frozen 0
    have f1 := hloc.b0.frozen 1
    have f2 := hloc.b0.frozen 2
    have f3 := hloc.b0.frozen 3
    have f4 := hloc.b0.frozen 4
    have LOC := Lib.hid hloc
    have REF := Lib.hid href
    have XT := Lib.hid hext
    have HLT := Lib.hid hlt
    have bd := left64_bd n0
    rw [HL.out] at bd
    obtain ⟨L0, L1⟩ := bd
    have RI : Hid (Refused n x1 ↔ L ≠ 0 ∧ M ≤ x1) := Lib.hid (by
      unfold Refused
      rw [HL.out, ← HM.out, IntKind.wrap_u64]
      constructor <;> (rintro ⟨h1, h2⟩; refine ⟨h1, ?_⟩; omega))
    have hw : IntKind.u64.wrap (-L) = M := HM.out
    obtain ⟨Y, hY⟩ : ∃ Y, x1.tmod n = Y := ⟨_, rfl⟩
    have HY : Hid (g.val pre.length % n = Y) := Lib.hid (by rw [← hY, ← HX1.out, Int.tmod_eq_emod_of_nonneg (by rw [HX1.out]; exact VN.out _)])
    have hnz : (n == 0) = false := by simp; omega
    have LEND : Hid (DrawLoc w _ n L (g.val pre.length % n) a' m' c' p' q' r' s') := Lib.hid (by rw [HY.out]; exact draw_end Y hloc)
    have hg9 : w.heap.size + 1 + 1 + 1 + 1 < W.heap.size := by omega
    clear hloc href hext hlt hb9
    by_cases hL0 : L = 0
    · have t1 : (L == 0) = true := by simp [hL0]
      have NR : Hid (¬ Refused n (g.val pre.length)) := Lib.hid (by rw [← HX1.out, RI.out]; simp [hL0])
      have HL0 := Lib.hid hL0
      clear hL0
      gi_wp2
      gi_region
      all_goals
        repeat gi_step
        exact ends_exit (draw_keeps w _ _ _ _ _ _ _) ⟨⟨rfl, pre.length, a', m', c', p', q', r', s', REF.out, NR.out, HX2.out, LEND.out⟩, draw_ext _ _ _ _ _ _ XT.out⟩
    · have t1 : (L == 0) = false := by simpa using hL0
      by_cases hxM : x1 < M
      · have t2 : decide (x1 < M) = true := by simpa using hxM
        have NR : Hid (¬ Refused n (g.val pre.length)) := Lib.hid (by rw [← HX1.out, RI.out]; rintro ⟨_, h⟩; omega)
        have HL0 := Lib.hid hL0
        clear hL0
        gi_wp2
        gi_region
        all_goals
          repeat gi_step
          exact ends_exit (draw_keeps w _ _ _ _ _ _ _) ⟨⟨rfl, pre.length, a', m', c', p', q', r', s', REF.out, NR.out, HX2.out, LEND.out⟩, draw_ext _ _ _ _ _ _ XT.out⟩
      · have t2 : decide (x1 < M) = false := by simpa using hxM
        have YR : Hid (Refused n (g.val pre.length)) := Lib.hid (by rw [← HX1.out, RI.out]; exact ⟨hL0, by omega⟩)
        have HL0 := Lib.hid hL0
        clear hL0
        gi_wp2
        refine ends_normal (KeepsOthers.refl _) ⟨Nat.le_refl _, rfl, fun _ _ => rfl⟩ ⟨⟨fun j hj => ?_, LOC.out⟩, XT.out⟩
        rw [List.length_append] at hj
        rcases Nat.lt_succ_iff_lt_or_eq.1 hj with h | rfl
        · exact REF.out j h
        · exact YR.out
  case done => exact fun D ys W _ h => h.elim
  case stop =>
    rintro D c'' pre W hD hp ⟨⟨rfl, k, a', m', c', p', q', r', s', h1, h2, h3, h4⟩, hx⟩ hK
    have H1 := Lib.hid h1
    have H2 := Lib.hid h2
    have H3 := Lib.hid h3
    have HH := Lib.hid h4
    have HX := Lib.hid hx
    obtain ⟨Y, hY⟩ : ∃ Y, g.val k % n = Y := ⟨_, rfl⟩
    rw [hY] at h4
    have HY := Lib.hid hY
    have ky := (h4.b4.cell 0).trans (show (#[Value.int .u64 Y] : Array Value)[0]? = some (.int .u64 Y) from rfl)
    have k0 := (h4.b0.cell 0).trans (show (rv a' m' c' p' q' r' s')[0]? = some (.slice a' m' c') from rfl)
    have k1 := (h4.b0.cell 1).trans (show (rv a' m' c' p' q' r' s')[1]? = some (.int .u64 p') from rfl)
    have k2 := (h4.b0.cell 2).trans (show (rv a' m' c' p' q' r' s')[2]? = some (.int .u64 q') from rfl)
    have k3 := (h4.b0.cell 3).trans (show (rv a' m' c' p' q' r' s')[3]? = some (.int .u64 r') from rfl)
    have k4 := (h4.b0.cell 4).trans (show (rv a' m' c' p' q' r' s')[4]? = some (.int .u64 s') from rfl)
    have j0 := (h4.b2.cell 0).trans (show (rv none 0 0 0 0 0 0)[0]? = some (.slice none 0 0) from rfl)
    have j1 := (h4.b2.cell 1).trans (show (rv none 0 0 0 0 0 0)[1]? = some (.int .u64 0) from rfl)
    have j2 := (h4.b2.cell 2).trans (show (rv none 0 0 0 0 0 0)[2]? = some (.int .u64 0) from rfl)
    have j3 := (h4.b2.cell 3).trans (show (rv none 0 0 0 0 0 0)[3]? = some (.int .u64 0) from rfl)
    have j4 := (h4.b2.cell 4).trans (show (rv none 0 0 0 0 0 0)[4]? = some (.int .u64 0) from rfl)
    have f0 := h4.b2.frozen 0
    have f1 := h4.b2.frozen 1
    have f2 := h4.b2.frozen 2
    have f3 := h4.b2.frozen 3
    have f4 := h4.b2.frozen 4
    have HK := Lib.hid hK
    clear h1 h2 h3 h4 hx hY hK hp
    refine (wpIn_wide (n := 10)).2 ?_
    go_wp2_with fail
    go_region
    go_wp2_with fail
    rw [Exit.noGoto_ret]
    have hne : D ≠ w.heap.size + 1 + 1 := by simp at hD; omega
    obtain ⟨Wf, hWf⟩ : ∃ Wf, Wf = (((((W.setCell ⟨w.heap.size + 1 + 1, 0, none⟩ (.slice a' m' c')).setCell ⟨w.heap.size + 1 + 1, 1, none⟩ (.int .u64 p')).setCell ⟨w.heap.size + 1 + 1, 2, none⟩ (.int .u64 q')).setCell ⟨w.heap.size + 1 + 1, 3, none⟩ (.int .u64 r')).setCell ⟨w.heap.size + 1 + 1, 4, none⟩ (.int .u64 s')).drew := ⟨_, rfl⟩
    have bf : Blk Wf (w.heap.size + 1 + 1) 27 (rv a' m' c' p' q' r' s') := by
      rw [hWf]; exact ((((((HH.out.b2.set_ 0 _).set_ 1 _).set_ 2 _).set_ 3 _).set_ 4 _).drew)
    have hKf : Wf.heap[D]? = some (.deferred (some [])) := by
      rw [hWf]
      exact (Below.heap_setCell _ _ _ D hne).trans ((Below.heap_setCell _ _ _ D hne).trans ((Below.heap_setCell _ _ _ D hne).trans ((Below.heap_setCell _ _ _ D hne).trans ((Below.heap_setCell _ _ _ D hne).trans HK.out))))
    have xf : Ext w Wf := by rw [hWf]; have hx := HX.out; exact (by repeat (first | with_reducible exact Ext.refl _ | with_reducible apply Ext.drew | with_reducible apply Ext.drewN | with_reducible apply Ext.alloc | ((with_reducible refine Ext.setCell ?_ ?_ _); rotate_left; focus (first | (simp; done) | (simp; omega) | omega)) | with_reducible refine Ext.tr ?_ x1 | with_reducible refine Ext.tr ?_ x2 | with_reducible refine Ext.tr ?_ xf | with_reducible refine Ext.tr ?_ hx | with_reducible refine Ext.tr ?_ hext | with_reducible assumption))
    rw [← hWf]
    clear hWf k0 k1 k2 k3 k4 j0 j1 j2 j3 j4 f0 f1 f2 f3 f4 ky
    have hP : w.heap.size ≤ D := by simp at hD; omega
    have XF : Ext w (Wf.putObj D (.deferred none)) := xf.trans (belowK_b (w := w) (Nat.le_refl _) Wf D _ _ hP hKf rfl rfl)
    have bp : Blk (Wf.putObj D (.deferred none)) (w.heap.size + 1 + 1) 27 (rv a' m' c' p' q' r' s') := (World.putObj_heap_other (fun e => hne e.symm)).trans bf
    have k0 := (bp.cell 0).trans (show (rv a' m' c' p' q' r' s')[0]? = some (.slice a' m' c') from rfl)
    have k1 := (bp.cell 1).trans (show (rv a' m' c' p' q' r' s')[1]? = some (.int .u64 p') from rfl)
    have k2 := (bp.cell 2).trans (show (rv a' m' c' p' q' r' s')[2]? = some (.int .u64 q') from rfl)
    have k3 := (bp.cell 3).trans (show (rv a' m' c' p' q' r' s')[3]? = some (.int .u64 r') from rfl)
    have k4 := (bp.cell 4).trans (show (rv a' m' c' p' q' r' s')[4]? = some (.int .u64 s') from rfl)
    change bodyPostM _ _ _ _ _ _ _ _
    refine ⟨by simp, .inl ⟨_, _, rfl, run_takeDeferred hKf, ?_⟩⟩
    generalize Wf.putObj D (.deferred none) = Wp at *
    refine ⟨.tuple #[.int .u64 Y, .agg (rv a' m' c' p' q' r' s')], ?_, k, _, H1.out, H2.out, by rw [HY.out], XF, H3.out⟩
    simp [results, Try.results56, go_sem, k0, k1, k2, k3, k4, rv]
end Go.Proofs.Ytmbgaonnknaclaa
