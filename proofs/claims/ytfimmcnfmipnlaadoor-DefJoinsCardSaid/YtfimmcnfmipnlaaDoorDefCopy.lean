/- Layers in new memory: CopyLayers, CopyLayer. -/
import Derived.Test.YtfimmcnfmipnlaaDoorDefBody
import Derived.Test.YtfimmcnfmipnlaaDoorEqLay
import Derived.Test.YtfimmcnfmipnlaaDoorClones
import Derived.Maps.AppendAt
namespace Go.Proofs.YtfimmcnfmipnlaaDoor
open Go.RowKit
/-- Lists of layers of at most 1000, n deep. -/
def Slim : Nat → List Lay → Prop
  | 0, _ => True
  | n + 1, L => L.length ≤ 1000 ∧ ∀ l ∈ L, Slim n l.b
theorem MyLays.set {B s R o n : Nat} {x : Value} {w : World} {v : Value} {L : List Lay} (h : MyLays (fun b => B ≤ b ∧ b < s) w n v L) (hR : R < B) : MyLays (fun b => B ≤ b ∧ b < s) (w.setCell ⟨R, o, none⟩ x) n v L :=
  h.keep (fun _ h => h) (fun b hb _ => Below.heap_setCell _ ⟨R, o, none⟩ _ b (by show b ≠ R; have := hb.1; omega))
def CopyOk (n : Nat) : Prop := ∀ (A : Nat → Prop) (v : Value) (L : List Lay) (w : World), LaysAt A w n v L → Slim n L →
  Calls Tryd.prog 26 #[v] w fun e w' => ∃ u, e = .returned u ∧ Ext w w' ∧ MyLays (fun b => w.heap.size ≤ b ∧ b < w'.heap.size) w' n u L
set_option maxHeartbeats 2000000 in
set_option maxRecDepth 100000 in
theorem copyLayer_of (n : Nat) (IH : CopyOk n) {A : Nat → Prop} {f : LayF} {bv : Value} {L : List Lay} {w : World} (h : LaysAt A w n bv L) (hs : Slim n L) :
    Calls Tryd.prog 41 #[.agg (layA f bv)] w fun e w' => ∃ u, e = .returned (.agg (layA f u)) ∧ Ext w w' ∧ MyLays (fun b => w.heap.size ≤ b ∧ b < w'.heap.size) w' n u L := by
  obtain ⟨fk, fi, fo, fs, ft, fp, fc, fh⟩ := f
  obtain ⟨a1, c1, rfl⟩ := h.form
  have CA := Lib.hid (fun u (x : Ext w u) => IH _ _ _ _ (h.ext x) hs)
  simp only [layA]
  clear h IH hs
  go_enter Tryd.func41, Tryd.ntmps41
  go_wp2_with fail; refine (CA.out _ (by repeat (first | with_reducible exact Ext.refl _ | with_reducible apply Ext.drew | with_reducible apply Ext.drewN | with_reducible apply Ext.alloc | ((with_reducible refine Ext.setCell ?_ ?_ _); rotate_left; focus (first | (simp; done) | (simp; omega) | omega)) | with_reducible refine Ext.tr ?_ x1 | with_reducible refine Ext.tr ?_ hext | with_reducible assumption))).mono ?_; rintro e v1 ⟨u1, rfl, x1, h1⟩; obtain ⟨c1, f1⟩ := x1.rules; have z1 := x1.size; have k1_0_0 := c1 (w.heap.size) 0 (by first | (simp; done) | (simp; omega) | omega); have q1_0_0 := f1 (w.heap.size) 0 (by first | (simp; done) | (simp; omega) | omega); have k1_0_1 := c1 (w.heap.size) 1 (by first | (simp; done) | (simp; omega) | omega); have q1_0_1 := f1 (w.heap.size) 1 (by first | (simp; done) | (simp; omega) | omega); have k1_0_2 := c1 (w.heap.size) 2 (by first | (simp; done) | (simp; omega) | omega); have q1_0_2 := f1 (w.heap.size) 2 (by first | (simp; done) | (simp; omega) | omega); have k1_0_3 := c1 (w.heap.size) 3 (by first | (simp; done) | (simp; omega) | omega); have q1_0_3 := f1 (w.heap.size) 3 (by first | (simp; done) | (simp; omega) | omega); have k1_0_4 := c1 (w.heap.size) 4 (by first | (simp; done) | (simp; omega) | omega); have q1_0_4 := f1 (w.heap.size) 4 (by first | (simp; done) | (simp; omega) | omega); have k1_0_5 := c1 (w.heap.size) 5 (by first | (simp; done) | (simp; omega) | omega); have q1_0_5 := f1 (w.heap.size) 5 (by first | (simp; done) | (simp; omega) | omega); have k1_0_6 := c1 (w.heap.size) 6 (by first | (simp; done) | (simp; omega) | omega); have q1_0_6 := f1 (w.heap.size) 6 (by first | (simp; done) | (simp; omega) | omega); have k1_0_7 := c1 (w.heap.size) 7 (by first | (simp; done) | (simp; omega) | omega); have q1_0_7 := f1 (w.heap.size) 7 (by first | (simp; done) | (simp; omega) | omega); have k1_0_8 := c1 (w.heap.size) 8 (by first | (simp; done) | (simp; omega) | omega); have q1_0_8 := f1 (w.heap.size) 8 (by first | (simp; done) | (simp; omega) | omega); have k1_1_0 := c1 (w.heap.size + 1) 0 (by first | (simp; done) | (simp; omega) | omega); have q1_1_0 := f1 (w.heap.size + 1) 0 (by first | (simp; done) | (simp; omega) | omega); have k1_1_1 := c1 (w.heap.size + 1) 1 (by first | (simp; done) | (simp; omega) | omega); have q1_1_1 := f1 (w.heap.size + 1) 1 (by first | (simp; done) | (simp; omega) | omega); have k1_1_2 := c1 (w.heap.size + 1) 2 (by first | (simp; done) | (simp; omega) | omega); have q1_1_2 := f1 (w.heap.size + 1) 2 (by first | (simp; done) | (simp; omega) | omega); have k1_1_3 := c1 (w.heap.size + 1) 3 (by first | (simp; done) | (simp; omega) | omega); have q1_1_3 := f1 (w.heap.size + 1) 3 (by first | (simp; done) | (simp; omega) | omega); have k1_1_4 := c1 (w.heap.size + 1) 4 (by first | (simp; done) | (simp; omega) | omega); have q1_1_4 := f1 (w.heap.size + 1) 4 (by first | (simp; done) | (simp; omega) | omega); have k1_1_5 := c1 (w.heap.size + 1) 5 (by first | (simp; done) | (simp; omega) | omega); have q1_1_5 := f1 (w.heap.size + 1) 5 (by first | (simp; done) | (simp; omega) | omega); have k1_1_6 := c1 (w.heap.size + 1) 6 (by first | (simp; done) | (simp; omega) | omega); have q1_1_6 := f1 (w.heap.size + 1) 6 (by first | (simp; done) | (simp; omega) | omega); have k1_1_7 := c1 (w.heap.size + 1) 7 (by first | (simp; done) | (simp; omega) | omega); have q1_1_7 := f1 (w.heap.size + 1) 7 (by first | (simp; done) | (simp; omega) | omega); have k1_1_8 := c1 (w.heap.size + 1) 8 (by first | (simp; done) | (simp; omega) | omega); have q1_1_8 := f1 (w.heap.size + 1) 8 (by first | (simp; done) | (simp; omega) | omega); have k1_2_0 := c1 (w.heap.size + 2) 0 (by first | (simp; done) | (simp; omega) | omega); have q1_2_0 := f1 (w.heap.size + 2) 0 (by first | (simp; done) | (simp; omega) | omega); have k1_2_1 := c1 (w.heap.size + 2) 1 (by first | (simp; done) | (simp; omega) | omega); have q1_2_1 := f1 (w.heap.size + 2) 1 (by first | (simp; done) | (simp; omega) | omega); have k1_2_2 := c1 (w.heap.size + 2) 2 (by first | (simp; done) | (simp; omega) | omega); have q1_2_2 := f1 (w.heap.size + 2) 2 (by first | (simp; done) | (simp; omega) | omega); have k1_2_3 := c1 (w.heap.size + 2) 3 (by first | (simp; done) | (simp; omega) | omega); have q1_2_3 := f1 (w.heap.size + 2) 3 (by first | (simp; done) | (simp; omega) | omega); have k1_2_4 := c1 (w.heap.size + 2) 4 (by first | (simp; done) | (simp; omega) | omega); have q1_2_4 := f1 (w.heap.size + 2) 4 (by first | (simp; done) | (simp; omega) | omega); have k1_2_5 := c1 (w.heap.size + 2) 5 (by first | (simp; done) | (simp; omega) | omega); have q1_2_5 := f1 (w.heap.size + 2) 5 (by first | (simp; done) | (simp; omega) | omega); have k1_2_6 := c1 (w.heap.size + 2) 6 (by first | (simp; done) | (simp; omega) | omega); have q1_2_6 := f1 (w.heap.size + 2) 6 (by first | (simp; done) | (simp; omega) | omega); have k1_2_7 := c1 (w.heap.size + 2) 7 (by first | (simp; done) | (simp; omega) | omega); have q1_2_7 := f1 (w.heap.size + 2) 7 (by first | (simp; done) | (simp; omega) | omega); have k1_2_8 := c1 (w.heap.size + 2) 8 (by first | (simp; done) | (simp; omega) | omega); have q1_2_8 := f1 (w.heap.size + 2) 8 (by first | (simp; done) | (simp; omega) | omega); have z1_0 : w.heap.size < v1.heap.size := (by (try simp at z1); omega); have z1_1 : w.heap.size + 1 < v1.heap.size := (by (try simp at z1); omega); have z1_2 : w.heap.size + 2 < v1.heap.size := (by (try simp at z1); omega); (try simp at z1); clear c1 f1; simp [go_sem, *] at k1_0_0 q1_0_0 k1_0_1 q1_0_1 k1_0_2 q1_0_2 k1_0_3 q1_0_3 k1_0_4 q1_0_4 k1_0_5 q1_0_5 k1_0_6 q1_0_6 k1_0_7 q1_0_7 k1_0_8 q1_0_8 k1_1_0 q1_1_0 k1_1_1 q1_1_1 k1_1_2 q1_1_2 k1_1_3 q1_1_3 k1_1_4 q1_1_4 k1_1_5 q1_1_5 k1_1_6 q1_1_6 k1_1_7 q1_1_7 k1_1_8 q1_1_8 k1_2_0 q1_2_0 k1_2_1 q1_2_1 k1_2_2 q1_2_2 k1_2_3 q1_2_3 k1_2_4 q1_2_4 k1_2_5 q1_2_5 k1_2_6 q1_2_6 k1_2_7 q1_2_7 k1_2_8 q1_2_8
  obtain ⟨a2, c2, rfl⟩ := h1.form
  have H1 := Lib.hid (show MyLays (fun b => w.heap.size + 1 + 1 + 1 ≤ b ∧ b < v1.heap.size) v1 n (.slice a2 L.length c2) L from h1.mono (fun b hb => ⟨by have := hb.1; simp at this; omega, hb.2⟩))
  have XW : Hid (Ext w v1) := Lib.hid (by repeat (first | with_reducible exact Ext.refl _ | with_reducible apply Ext.drew | with_reducible apply Ext.drewN | with_reducible apply Ext.alloc | ((with_reducible refine Ext.setCell ?_ ?_ _); rotate_left; focus (first | (simp; done) | (simp; omega) | omega)) | with_reducible refine Ext.tr ?_ x1 | with_reducible refine Ext.tr ?_ hext | with_reducible assumption))
  clear h1 CA x1
  go_wp2
  simp [bodyPost, results, Tryd.results41, go_sem, *]
  refine ⟨?_, ?_⟩
  · have xw := XW.out
    exact (by repeat (first | with_reducible exact Ext.refl _ | with_reducible apply Ext.drew | with_reducible apply Ext.drewN | with_reducible apply Ext.alloc | ((with_reducible refine Ext.setCell ?_ ?_ _); rotate_left; focus (first | (simp; done) | (simp; omega) | omega)) | with_reducible refine Ext.tr ?_ x1 | with_reducible refine Ext.tr ?_ hext | with_reducible assumption))
  · refine MyLays.mono (A := fun b => w.heap.size + 1 + 1 + 1 ≤ b ∧ b < v1.heap.size) ?_ (fun b hb => ⟨by have := hb.1; omega, by have := hb.2; simpa using this⟩)
    repeat (first | with_reducible exact H1.out | with_reducible refine MyLays.set ?_ (by omega))
set_option maxHeartbeats 4000000 in
set_option maxRecDepth 100000 in
theorem copyLayers_step (n : Nat) (IH : ∀ m, n = m + 1 → CopyOk m) : CopyOk n := by
  intro A v L w hL hS
  obtain ⟨a1, c1, rfl⟩ := hL.form
  cases n with
  | zero =>
    obtain ⟨rfl, -⟩ := hL
    simp only [List.length_nil]
    clear IH hS
    go_enter Tryd.func26, Tryd.ntmps26
    go_wp2_with fail
    go_loopw [3, 4] (fun l i wr => l = .slice none 0 0 ∧ i = .int .i64 0 ∧ wr = w) (fun _ _ _ => 0)
    case atStart => exact ⟨rfl, rfl, rfl⟩
    case round =>
      obtain ⟨rfl, rfl, hwr⟩ := hrel
      subst hwr
      go_wp2
      go_ret
      exact ⟨_, rfl, Ext.refl _, MyLays.nil _ _ _⟩
  | succ n =>
    obtain ⟨i0, hi0, hz0, hz1, hz2⟩ := info_parts lay_info
    obtain ⟨hlen, hel⟩ := hS
    have CL := Lib.hid (fun (f : LayF) (bv : Value) (b : List Lay) (u : World) (h : LaysAt A u n bv b) (hs : Slim n b) => copyLayer_of n (IH n rfl) (f := f) h hs)
    have H1 := Lib.hid hL
    have HE := Lib.hid hel
    clear hL IH hel
    go_enter Tryd.func26, Tryd.ntmps26
    go_wp2_with fail
    go_loopw [3, 4] (fun l i wr => ∃ k : Nat, k ≤ L.length ∧ i = .int .i64 k ∧ Ext w wr ∧ AccAt w.heap.size wr n l (L.take k)) (fun _ i _ => L.length - (intOf i).toNat)
    case atStart => exact ⟨0, Nat.zero_le _, rfl, Ext.refl _, by rw [List.take_zero]; exact AccAt.nil _ _ _⟩
    case round =>
      obtain ⟨k, hk, rfl, hext, hacc⟩ := hrel
      have htl : (L.take k).length = k := by rw [List.length_take]; omega
      obtain ⟨ua, uc, rfl⟩ := hacc.form
      rw [htl] at hacc ⊢
      have ACC := Lib.hid hacc
      have XWR := Lib.hid hext
      rcases Nat.lt_or_ge k L.length with hlt | hge
      · have hlz : (k : Int) < (L.length : Int) := by omega
        obtain ⟨_, _, e1, -, q1⟩ := H1.out
        cases e1
        obtain ⟨b1, o1, rfl, -, r1⟩ := q1 (by intro e; rw [e] at hlt; simp at hlt)
        obtain ⟨bv1, ⟨ba, bn, bc, rfl⟩, t1, s1⟩ := r1 k hlt
        obtain ⟨y0, y1, y2, y3, y4, y5, y6, y7, y8⟩ := nineE t1
        have SN0 := Lib.hid (show L.take (k + 1) = L.take k ++ [.mk L[k].f L[k].b] by
          rw [List.take_succ_eq_append_getElem hlt]
          cases L[k] with
          | mk f b => rfl)
        have CA := Lib.hid (fun u (x : Ext w u) => CL.out L[k].f _ _ u (s1.ext x) (HE.out _ (List.getElem_mem hlt)))
        simp only [layA] at CA
        clear q1 r1 t1 s1 H1 HE CL
        generalize L[k].f = f at *
        generalize L[k].b = b at *
        replace y0 := hext.cell y0
        replace y1 := hext.cell y1
        replace y2 := hext.cell y2
        replace y3 := hext.cell y3
        replace y4 := hext.cell y4
        replace y5 := hext.cell y5
        replace y6 := hext.cell y6
        replace y7 := hext.cell y7
        replace y8 := hext.cell y8
        have zb1 := cell_lt y0
        simp only at zb1
        clear hacc
        go_wp2_with fail
        refine (CA.out _ XWR.out).mono ?_
        rintro e v1 ⟨u1, rfl, x1, h1⟩
        obtain ⟨a2, c2, rfl⟩ := h1.form
        clear CA y0 y1 y2 y3 y4 y5 y6 y7 y8
        have A1 := Lib.hid (ACC.out.ext x1)
        have X1 := Lib.hid (XWR.out.tr x1)
        obtain ⟨ps, own, hps, hel⟩ := A1.out.is
        have OLD := Lib.hid (show ∀ q, (Value.slice ua k uc).ownBlock = some q → q < wr.heap.size by
          obtain ⟨ps0, own0, -, -⟩ := ACC.out.is
          exact fun q hq => (own0.lt q hq).2)
        rw [htl] at own hps
        have OWN := Lib.hid own
        have hn2 : k + 1 ≤ maxLen := by unfold maxLen; omega
        have hn3 : (k + 1) * 88 ≤ 140737488355328 := by omega
        have zsz := X1.out.size
        have zwr := XWR.out.size
        have hbase : w.heap.size ≤ (v1.alloc (.cells (layA f (.slice a2 b.length c2)) 49)).heap.size := by rw [World.size_alloc]; omega
        have hlo : ∀ q, (Value.slice ua k uc).ownBlock = some q → w.heap.size ≤ q := fun q hq => (own.lt q hq).1
        have LYB : Hid (MyLays (fun b => w.heap.size ≤ b ∧ b < v1.heap.size ∧ (Value.slice ua k uc).ownBlock ≠ some b) v1 n (.slice a2 b.length c2) b) := Lib.hid (h1.mono (fun b hb => ⟨by have := hb.1; omega, hb.2, fun e => by have := OLD.out b e; have := hb.1; omega⟩))
        have SN := Lib.hid (fun w1 v' => AccAt.snoc (w := v1) (W := v1.alloc (.cells (layA f (.slice a2 b.length c2)) 49)) (w1 := w1) (v' := v') (bv := (.slice a2 b.length c2)) (f := f) (b := b) (htl.trans hps) htl.symm hel ((Ext.refl _).alloc _))
        clear own hel hps h1 x1 A1 ACC OLD XWR
        go_wp2_with (at_builtin; refine (show Hid _ from ?_).out)
        refine Lib.hid ?_
        refine wpList_append_own_at _ rfl _ _ 24 rfl w.heap.size 49 i0 _ 9 88 Tryd.underlying24 hi0 hz0 hz1 hz2 rfl (by decide) _ _ _ rfl (own_old OWN.out ((Ext.refl _).alloc _)) ⟨v1.heap.size, 0, none⟩ 1 1 (layA f (.slice a2 b.length c2)).toList rfl rfl (newsL_1 _ _ _ _) (oneL_1 _ _ _ _) hn2 hn3 hbase ?_
        intro v' w4 hown hgrow _ hob
        have A4 := Lib.hid (SN.out w4 v' hgrow hown hob ⟨_, _, _, rfl⟩ LYB.out)
        have X4 := Lib.hid (show Ext w w4 from Ext.grown (X1.out.alloc (.cells (layA f (.slice a2 b.length c2)) 49)) hgrow hlo)
        clear SN hown hgrow hob OWN LYB
        go_wp2_with fail
        exact ⟨⟨k + 1, by omega, by go_num, X4.out, by rw [SN0.out]; exact A4.out⟩, by simp [intOf]; omega⟩
      · have hlz : ¬ (k : Int) < (L.length : Int) := by omega
        obtain rfl : k = L.length := by omega
        rw [List.take_length] at ACC
        clear H1 HE CL hacc
        go_wp2
        go_ret
        exact ⟨_, rfl, XWR.out, ACC.out.lays (by omega)⟩
end Go.Proofs.YtfimmcnfmipnlaaDoor
