/- CopyLayers: an own row, its bodies elsewhere. Two such rows, one behind the other. -/
import Derived.Test.YtgokenbojppnhaaDoorDefSlim
import Derived.Test.YtgokenbojppnhaaDoorInfParam
namespace Go.Proofs.YtgokenbojppnhaaDoor
open Go.RowKit
set_option maxHeartbeats 4000000 in
set_option maxRecDepth 100000 in
theorem copyAcc_any (n : Nat) {A : Nat → Prop} {v : Value} {L : List Lay} {w : World} (hL : LaysAt A w n v L) (hS : Slim n L) :
    Calls Tryd.prog 18 #[v] w fun e w' => ∃ u, e = .returned u ∧ Ext w w' ∧ AccAt w.heap.size w' (n - 1) u L := by
  obtain ⟨a1, c1, rfl⟩ := hL.form
  cases n with
  | zero =>
    obtain ⟨rfl, -⟩ := hL
    simp only [List.length_nil]
    clear hS
    go_enter Tryd.func18, Tryd.ntmps18
    go_wp2_with fail
    go_loopw [3, 4] (fun l i wr => l = .slice none 0 0 ∧ i = .int .i64 0 ∧ wr = w) (fun _ _ _ => 0)
    case atStart => exact ⟨rfl, rfl, rfl⟩
    case round =>
      obtain ⟨rfl, rfl, hwr⟩ := hrel
      subst hwr
      go_wp2
      go_ret
      exact ⟨_, rfl, Ext.refl _, AccAt.nil _ _ _⟩
  | succ n =>
    obtain ⟨i0, hi0, hz0, hz1, hz2⟩ := info_parts lay_info
    obtain ⟨hlen, hel⟩ := hS
    have CL := Lib.hid (fun (f : LayF) (bv : Value) (b : List Lay) (u : World) (h : LaysAt A u n bv b) (hs : Slim n b) => copyLayer_of n (copyLayers_any n) (f := f) h hs)
    have H1 := Lib.hid hL
    have HE := Lib.hid hel
    clear hL hel
    go_enter Tryd.func18, Tryd.ntmps18
    go_wp2_with fail
    go_loopw [3, 4] (fun l i wr => ∃ k : Nat, k ≤ L.length ∧ i = .int .i64 k ∧ Ext w wr ∧ AccAt w.heap.size wr n l (L.take k)) (fun _ i _ => L.length - (intOf i).toNat)
    case atStart => exact ⟨0, Nat.zero_le _, rfl, Ext.refl _, by rw [List.take_zero]; exact AccAt.nil _ _ _⟩
    case round =>
      obtain ⟨k, hk, rfl, hext, hacc⟩ := hrel
      have htl : (L.take k).length = k := by rw [List.length_take]; omega
      obtain ⟨ua, uc, rfl⟩ := hacc.form
      rw [htl] at hacc ⊢
      have ACC := Lib.hid hacc
      have XWR := Lib.hid hext
      rcases Nat.lt_or_ge k L.length with hlt | hge
      · have hlz : (k : Int) < (L.length : Int) := by omega
        obtain ⟨_, _, e1, -, q1⟩ := H1.out
        cases e1
        obtain ⟨b1, o1, rfl, -, r1⟩ := q1 (by intro e; rw [e] at hlt; simp at hlt)
        obtain ⟨bv1, ⟨ba, bn, bc, rfl⟩, t1, s1⟩ := r1 k hlt
        obtain ⟨y0, y1, y2, y3, y4, y5, y6, y7, y8⟩ := nineE t1
        have SN0 := Lib.hid (show L.take (k + 1) = L.take k ++ [.mk L[k].f L[k].b] by
          rw [List.take_succ_eq_append_getElem hlt]
          cases L[k] with
          | mk f b => rfl)
        have CA := Lib.hid (fun u (x : Ext w u) => CL.out L[k].f _ _ u (s1.ext x) (HE.out _ (List.getElem_mem hlt)))
        simp only [layA] at CA
        clear q1 r1 t1 s1 H1 HE CL
        generalize L[k].f = f at *
        generalize L[k].b = b at *
        replace y0 := hext.cell y0
        replace y1 := hext.cell y1
        replace y2 := hext.cell y2
        replace y3 := hext.cell y3
        replace y4 := hext.cell y4
        replace y5 := hext.cell y5
        replace y6 := hext.cell y6
        replace y7 := hext.cell y7
        replace y8 := hext.cell y8
        have zb1 := cell_lt y0
        simp only at zb1
        clear hacc
        go_wp2_with fail
        refine (CA.out _ XWR.out).mono ?_
        rintro e v1 ⟨u1, rfl, x1, h1⟩
        obtain ⟨a2, c2, rfl⟩ := h1.form
        clear CA y0 y1 y2 y3 y4 y5 y6 y7 y8
        have A1 := Lib.hid (ACC.out.ext x1)
        have X1 := Lib.hid (XWR.out.tr x1)
        obtain ⟨ps, own, hps, hel⟩ := A1.out.is
        have OLD := Lib.hid (show ∀ q, (Value.slice ua k uc).ownBlock = some q → q < wr.heap.size by
          obtain ⟨ps0, own0, -, -⟩ := ACC.out.is
          exact fun q hq => (own0.lt q hq).2)
        rw [htl] at own hps
        have OWN := Lib.hid own
        have hn2 : k + 1 ≤ maxLen := by unfold maxLen; omega
        have hn3 : (k + 1) * 88 ≤ 140737488355328 := by omega
        have zsz := X1.out.size
        have zwr := XWR.out.size
        have hbase : w.heap.size ≤ (v1.alloc (.cells (layA f (.slice a2 b.length c2)) 52)).heap.size := by rw [World.size_alloc]; omega
        have hlo : ∀ q, (Value.slice ua k uc).ownBlock = some q → w.heap.size ≤ q := fun q hq => (own.lt q hq).1
        have LYB : Hid (MyLays (fun b => w.heap.size ≤ b ∧ b < v1.heap.size ∧ (Value.slice ua k uc).ownBlock ≠ some b) v1 n (.slice a2 b.length c2) b) := Lib.hid (h1.mono (fun b hb => ⟨by have := hb.1; omega, hb.2, fun e => by have := OLD.out b e; have := hb.1; omega⟩))
        have SN := Lib.hid (fun w1 v' => AccAt.snoc (w := v1) (W := v1.alloc (.cells (layA f (.slice a2 b.length c2)) 52)) (w1 := w1) (v' := v') (bv := (.slice a2 b.length c2)) (f := f) (b := b) (htl.trans hps) htl.symm hel ((Ext.refl _).alloc _))
        clear own hel hps h1 x1 A1 ACC OLD XWR
        go_wp2_with (at_builtin; refine (show Hid _ from ?_).out)
        refine Lib.hid ?_
        refine wpList_append_own_at _ rfl _ _ 25 rfl w.heap.size 52 i0 _ 9 88 Tryd.underlying25 hi0 hz0 hz1 hz2 rfl (by decide) _ _ _ rfl (own_old OWN.out ((Ext.refl _).alloc _)) ⟨v1.heap.size, 0, none⟩ 1 1 (layA f (.slice a2 b.length c2)).toList rfl rfl (newsL_1 _ _ _ _) (oneL_1 _ _ _ _) hn2 hn3 hbase ?_
        intro v' w4 hown hgrow _ hob
        have A4 := Lib.hid (SN.out w4 v' hgrow hown hob ⟨_, _, _, rfl⟩ LYB.out)
        have X4 := Lib.hid (show Ext w w4 from Ext.grown (X1.out.alloc (.cells (layA f (.slice a2 b.length c2)) 52)) hgrow hlo)
        clear SN hown hgrow hob OWN LYB
        go_wp2_with fail
        exact ⟨⟨k + 1, by omega, by go_num, X4.out, by rw [SN0.out]; exact A4.out⟩, by simp [intOf]; omega⟩
      · have hlz : ¬ (k : Int) < (L.length : Int) := by omega
        obtain rfl : k = L.length := by omega
        rw [List.take_length] at ACC
        clear H1 HE CL hacc
        go_wp2
        go_ret
        exact ⟨_, rfl, XWR.out, ACC.out⟩
/-- Two rows of layers, one behind the other. -/
theorem AccAt.app {base : Nat} {w w1 : World} {e : Nat} {v v' : Value} {A B : List Lay} {ps qs : List (LayF × Value)}
    (hA2 : A.length = ps.length) (hA3 : ∀ i (h1 : i < A.length) (h2 : i < ps.length), A[i].f = ps[i].1 ∧ (∃ a n c, ps[i].2 = .slice a n c) ∧ MyLays (fun b => base ≤ b ∧ b < w.heap.size ∧ v.ownBlock ≠ some b) w e ps[i].2 A[i].b)
    (hB2 : B.length = qs.length) (hB3 : ∀ i (h1 : i < B.length) (h2 : i < qs.length), B[i].f = qs[i].1 ∧ (∃ a n c, qs[i].2 = .slice a n c) ∧ MyLays (fun b => base ≤ b ∧ b < w.heap.size ∧ v.ownBlock ≠ some b) w e qs[i].2 B[i].b)
    (hg : w.grownBy w1 v.ownBlock) (ho : w1.ownsRow base 52 9 v' (A.length + B.length) (layCells ps ++ layCells qs)) (hl : A.length + B.length ≤ 100000) :
    LaysAt (fun b => base ≤ b ∧ b < w1.heap.size) w1 (e + 1) v' (A ++ B) := by
  have up : ∀ {u : Value} {L : List Lay}, MyLays (fun b => base ≤ b ∧ b < w.heap.size ∧ v.ownBlock ≠ some b) w e u L → LaysAt (fun b => base ≤ b ∧ b < w1.heap.size) w1 e u L := fun hu =>
    (hu.keep (A' := fun b => base ≤ b ∧ b < w1.heap.size) (fun b hb => ⟨hb.1, Nat.lt_of_lt_of_le hb.2.1 hg.size⟩) (fun b hb hlt => hg.block b hlt (fun e => hb.2.2 e.symm))).1
  refine LaysAt.of_owns (ps := ps ++ qs) (by rw [show layCells (ps ++ qs) = layCells ps ++ layCells qs by simp [layCells]]; exact ho) (fun b hb => ho.lt b hb) (by rw [List.length_append, List.length_append, hA2, hB2]) (by rw [List.length_append]; unfold maxLen; omega) (fun i h1 h2 => ?_)
  by_cases hi : i < A.length
  · rw [List.getElem_append_left hi, List.getElem_append_left (by omega)]
    obtain ⟨a, b, c⟩ := hA3 i hi (by omega)
    exact ⟨a, b, up c⟩
  · rw [List.getElem_append_right (by omega), List.getElem_append_right (by omega)]
    have hi2 : i - A.length < B.length := by rw [List.length_append] at h1; omega
    have e1 : i - ps.length = i - A.length := by omega
    obtain ⟨a, b, c⟩ := hB3 (i - A.length) hi2 (by omega)
    simp only [e1]
    exact ⟨a, b, up c⟩
theorem layCells_one : ∀ {qs : List (LayF × Value)}, (∀ i (h : i < qs.length), ∃ a n c, qs[i].2 = .slice a n c) → ∀ u ∈ layCells qs, u.oneCell' = true := by
  intro qs h u hu
  obtain ⟨q, hq, hm⟩ := List.mem_flatMap.1 hu
  obtain ⟨i, hi, rfl⟩ := List.getElem_of_mem hq
  obtain ⟨a, n, c, e⟩ := h i hi
  rw [e] at hm
  simp [layA] at hm
  rcases hm with rfl | rfl | rfl | rfl | rfl | rfl | rfl | rfl | rfl <;> rfl
/-- append of copied layers onto copied layers: the run. -/
theorem lays_append {base base2 e : Nat} {w : World} {v u : Value} {A B : List Lay} (hA : AccAt base w e v A) (hB : AccAt base2 w e u B) (hb : base ≤ base2) (hv : ∀ q, v.ownBlock = some q → q < base2) (hl : A.length + B.length ≤ 100000) (hw : base ≤ w.heap.size) :
    ∃ a c w', (Builtin.append_ #[25, 25] 25 #[v, u]).run Tryd.prog w = .ok (.slice a (A ++ B).length c) w' ∧ w.grownBy w' v.ownBlock ∧ (∀ q, v.ownBlock = some q → base ≤ q ∧ ∃ cs fr, w.heap[q]? = some (Obj.cells cs 52 fr)) ∧ LaysAt (fun b => base ≤ b ∧ b < w'.heap.size) w' (e + 1) (.slice a (A ++ B).length c) (A ++ B) := by
  obtain ⟨i0, hi0, hz0, hz1, hz2⟩ := info_parts lay_info
  obtain ⟨ps, p1, p2, p3⟩ := hA.is
  obtain ⟨qs, q1, q2, q3⟩ := hB.is
  have q3' : ∀ i (h1 : i < B.length) (h2 : i < qs.length), B[i].f = qs[i].1 ∧ (∃ a n c, qs[i].2 = .slice a n c) ∧ MyLays (fun b => base ≤ b ∧ b < w.heap.size ∧ v.ownBlock ≠ some b) w e qs[i].2 B[i].b := fun i h1 h2 => by
    obtain ⟨a, b, c⟩ := q3 i h1 h2
    exact ⟨a, b, c.mono (fun b hb' => ⟨by have := hb'.1; omega, hb'.2.1, fun e => by have := hv b e; have := hb'.1; omega⟩)⟩
  have fin : ∀ (v' : Value) (w' : World), w'.ownsRow base 52 9 v' (A.length + B.length) (layCells ps ++ layCells qs) → w.grownBy w' v.ownBlock → ∃ a c, v' = .slice a (A ++ B).length c ∧ LaysAt (fun b => base ≤ b ∧ b < w'.heap.size) w' (e + 1) (.slice a (A ++ B).length c) (A ++ B) := by
    intro v' w' ho hg
    have h := AccAt.app p2 p3 q2 q3' hg ho hl
    obtain ⟨a, c, e1⟩ := h.form
    exact ⟨a, c, e1, by rw [← e1]; exact h⟩
  have hlo := own_type p1
  rcases q1.2 with ⟨rfl, h0⟩ | ⟨g, cap, cur, rfl, h2, h3, h4, h5, h6, h7⟩
  · have hB0 : B = [] := List.length_eq_zero_iff.1 h0
    subst hB0
    have hq0 : qs = [] := List.length_eq_zero_iff.1 (by rw [← q2]; rfl)
    subst hq0
    obtain ⟨a, c, rfl, hL⟩ := fin v w (by simpa [layCells] using p1) (World.grownBy.refl _ _)
    exact ⟨a, c, w, run_append_none' base _ _ _ i0 9 Tryd.underlying25 hi0 _ _ _ p1 0, World.grownBy.refl _ _, hlo, hL⟩
  · obtain ⟨v', w', hr, g1, g2, -⟩ := run_append_own (P := Tryd.prog) (w := w) base 25 25 52 i0 _ 9 88 Tryd.underlying25 hi0 hz0 hz1 hz2 rfl (by decide) v A.length (layCells ps) p1 ⟨g, 0, none⟩ B.length cap (layCells qs) (by rw [layCells_len, q2]) (q1.cells rfl) (layCells_one fun i hi => (q3 i (by omega) hi).2.1) (by unfold maxLen; omega) (by omega) hw
    obtain ⟨a, c, rfl, hL⟩ := fin v' w' g1 g2
    exact ⟨a, c, w', hr, g2, hlo, hL⟩
theorem Blk.lgrown {w w' : World} {g B : Nat} {t : TypeId} {cs : Array Value} {row : Option Nat} (h : Blk w g t cs) (hg : w.grownBy w' row) (hr : ∀ k, row = some k → B ≤ k ∧ ∃ cs fr, w.heap[k]? = some (Obj.cells cs 52 fr)) (ht : t ≠ 52) : Blk w' g t cs :=
  h.grown hg (fun e => by
    obtain ⟨-, cs', fr', e3⟩ := hr g e.symm
    unfold Blk at h
    rw [e3] at h
    cases h
    exact ht rfl)
theorem acc_lt {base e : Nat} {w : World} {v : Value} {A : List Lay} (h : AccAt base w e v A) : ∀ q, v.ownBlock = some q → q < w.heap.size := by
  obtain ⟨ps, p1, -, -⟩ := h.is
  exact fun q hq => (p1.lt q hq).2
/-- No layers lie in a small block. -/
theorem LaysAt.off {A : Nat → Prop} {w : World} {g : Nat} {t : TypeId} {cs : Array Value} (hB : Blk w g t cs) (hs : cs.size < 9) : ∀ {n : Nat} {v : Value} {L : List Lay}, LaysAt A w n v L → LaysAt (fun b => A b ∧ b ≠ g) w n v L
  | 0, _, _, h => h
  | n + 1, _, L, h => by
    obtain ⟨a, cap, rfl, h1, h2⟩ := h
    refine ⟨a, cap, rfl, h1, fun hn => ?_⟩
    obtain ⟨b, o, rfl, hb, hc⟩ := h2 hn
    refine ⟨b, o, rfl, ⟨hb, ?_⟩, fun i hi => ?_⟩
    · rintro rfl
      obtain ⟨bv, -, h3, -⟩ := hc 0 (List.length_pos_iff.2 hn)
      have e := h3 8 (by omega)
      rw [hB.cell, Array.getElem?_eq_none (by omega)] at e
      simp [layA] at e
    · obtain ⟨bv, hsl, h3, h4⟩ := hc i hi
      exact ⟨bv, hsl, h3, LaysAt.off hB hs h4⟩
/-- A small block is stored into: the layers lie as they lay. -/
theorem LaysAt.set3 {A : Nat → Prop} {w : World} {g : Nat} {t : TypeId} {cs ds : Array Value} {n : Nat} {v : Value} {L : List Lay} (h : LaysAt A w n v L) (hB : Blk w g t cs) (hs : cs.size < 9) (hA : ∀ b, A b → b < w.heap.size) : LaysAt (fun b => b < (w.setRow g ds).heap.size) (w.setRow g ds) n v L :=
  (LaysAt.off hB hs h).keep (fun b hb => by rw [setRow_size]; exact hA b hb.1) (fun b hb _ => setRow_other _ _ _ _ hb.2)
theorem wp_append_run {P : Program} {w : World} {o : Oper} {a : Act} {K : Act → World → Prop} {Q : Exit → Act → World → Prop} (s x : Operand) (t : TypeId) (ho : o.op = Op.call { callee := Callee.builtin Builtin.append, args := #[s, x], argTypes := #[t, t] })
    {v u v' : Value} {w' : World} (hs : a.eval s = v) (hx : a.eval x = u) (hrun : (Builtin.append_ #[t, t] o.type #[v, u]).run P w = .ok v' w') (h : K (a.put o.dst v') w') : o.wp P a w K Q := by
  unfold Oper.wp execOp
  simp only [ho, resolve, invoke, builtin, Sem.run_bind, Sem.run_pure, Result.andThen_ok, List.map_toArray, List.map_cons, List.map_nil, hs, hx, hrun]
  exact h
end Go.Proofs.YtgokenbojppnhaaDoor
