/- (*infer.step).does: a linear layer that goes with the shape. -/
import Derived.Test.YtgokenbojppnhaaDoorInfDoes0
namespace Go.Proofs.YtgokenbojppnhaaDoor
open Go.RowKit
attribute [local go_sem ↓] Go.wp_at_zero Go.wp_at_succ
theorem src_cell {x : Value} {g : Nat} {w : World} (hc : w.cell? ⟨g, 0, none⟩ = some x) : ∀ j v, [x][j]? = some v → w.cell? ((⟨g, 0, none⟩ : Addr).add j) = some v := by
  intro j v hj
  cases j with
  | succ j => simp at hj
  | zero =>
    simp at hj
    subst hj
    rw [Addr.add_lit]
    exact hc
set_option maxHeartbeats 8000000 in
set_option maxRecDepth 100000 in
theorem does_lin_1 {B S : Nat} {w : World} {I O Z T P C H : Int} {ba' ia : Option Addr} {bn bc ic : Nat} {first : Bool} {nm : Bs}  (h : DoesAt B w S ⟨1, I, O, Z, T, P, C, H⟩ (.slice ba' bn bc) (.slice ia 1 ic) first nm [I]) :
    Calls Tryd.prog 67 #[.pointer (some ⟨S, 0, none⟩)] w fun e w' => DoesP B w S ⟨1, I, O, Z, T, P, C, H⟩ (.slice ba' bn bc) (.slice ia 1 ic) first nm e w' (some ([O], [⟨nm ++ [46, 119], [I, O], I, O⟩, ⟨nm ++ [46, 98], [O], 0, 0⟩])) := by
  obtain ⟨hblk, hrow, hlow, hdim, hname⟩ := h
  obtain ⟨d1, d2, d3, d4⟩ := fullS_dims hdim
  have zS := hblk.lt
  have k0 := (hblk.cell 0).trans (show (stepA ⟨1, I, O, Z, T, P, C, H⟩ (.slice ba' bn bc) (.slice ia 1 ic) (.slice none 0 0) (.slice none 0 0) first (ba nm) 0 false)[0]? = some (.int .i64 1) from rfl)
  have k1 := (hblk.cell 1).trans (show (stepA ⟨1, I, O, Z, T, P, C, H⟩ (.slice ba' bn bc) (.slice ia 1 ic) (.slice none 0 0) (.slice none 0 0) first (ba nm) 0 false)[1]? = some (.int .i64 I) from rfl)
  have k2 := (hblk.cell 2).trans (show (stepA ⟨1, I, O, Z, T, P, C, H⟩ (.slice ba' bn bc) (.slice ia 1 ic) (.slice none 0 0) (.slice none 0 0) first (ba nm) 0 false)[2]? = some (.int .i64 O) from rfl)
  have k3 := (hblk.cell 3).trans (show (stepA ⟨1, I, O, Z, T, P, C, H⟩ (.slice ba' bn bc) (.slice ia 1 ic) (.slice none 0 0) (.slice none 0 0) first (ba nm) 0 false)[3]? = some (.int .i64 Z) from rfl)
  have k4 := (hblk.cell 4).trans (show (stepA ⟨1, I, O, Z, T, P, C, H⟩ (.slice ba' bn bc) (.slice ia 1 ic) (.slice none 0 0) (.slice none 0 0) first (ba nm) 0 false)[4]? = some (.int .i64 T) from rfl)
  have k5 := (hblk.cell 5).trans (show (stepA ⟨1, I, O, Z, T, P, C, H⟩ (.slice ba' bn bc) (.slice ia 1 ic) (.slice none 0 0) (.slice none 0 0) first (ba nm) 0 false)[5]? = some (.int .i64 P) from rfl)
  have k6 := (hblk.cell 6).trans (show (stepA ⟨1, I, O, Z, T, P, C, H⟩ (.slice ba' bn bc) (.slice ia 1 ic) (.slice none 0 0) (.slice none 0 0) first (ba nm) 0 false)[6]? = some (.int .i64 C) from rfl)
  have k7 := (hblk.cell 7).trans (show (stepA ⟨1, I, O, Z, T, P, C, H⟩ (.slice ba' bn bc) (.slice ia 1 ic) (.slice none 0 0) (.slice none 0 0) first (ba nm) 0 false)[7]? = some (.int .i64 H) from rfl)
  have k8 := (hblk.cell 8).trans (show (stepA ⟨1, I, O, Z, T, P, C, H⟩ (.slice ba' bn bc) (.slice ia 1 ic) (.slice none 0 0) (.slice none 0 0) first (ba nm) 0 false)[8]? = some (.slice ba' bn bc) from rfl)
  have k9 := (hblk.cell 9).trans (show (stepA ⟨1, I, O, Z, T, P, C, H⟩ (.slice ba' bn bc) (.slice ia 1 ic) (.slice none 0 0) (.slice none 0 0) first (ba nm) 0 false)[9]? = some (.slice ia 1 ic) from rfl)
  have f10 := hblk.frozen 10
  have k10 := (hblk.cell 10).trans (show (stepA ⟨1, I, O, Z, T, P, C, H⟩ (.slice ba' bn bc) (.slice ia 1 ic) (.slice none 0 0) (.slice none 0 0) first (ba nm) 0 false)[10]? = some (.slice none 0 0) from rfl)
  have HBLK := Lib.hid hblk
  have HROW := Lib.hid hrow
  have HD := Lib.hid d2
  clear hblk hrow hdim d2
  go_enter Tryd.func67, Tryd.ntmps67
  go_wp2_with fail
  go_cut [3, 4] (fun s3 s4 W => s3 = .pointer (some ⟨w.heap.size, 0, none⟩) ∧ s4 = .int .i64 (0) ∧ Blk W w.heap.size 52 #[.int .i64 (1), .int .i64 I, .int .i64 O, .int .i64 Z, .int .i64 T, .int .i64 P, .int .i64 C, .int .i64 H, .slice ba' bn bc] ∧ Ext w W)
  case first => as_aux_lemma =>
    go_region_held3 (fun w' => w'.cell? ⟨S, 0, none⟩ = some (.int .i64 1) ∧ w'.cell? ⟨S, 1, none⟩ = some (.int .i64 I) ∧ w'.cell? ⟨S, 2, none⟩ = some (.int .i64 O) ∧ w'.cell? ⟨S, 3, none⟩ = some (.int .i64 Z) ∧ w'.cell? ⟨S, 4, none⟩ = some (.int .i64 T) ∧ w'.cell? ⟨S, 5, none⟩ = some (.int .i64 P) ∧ w'.cell? ⟨S, 6, none⟩ = some (.int .i64 C) ∧ w'.cell? ⟨S, 7, none⟩ = some (.int .i64 H) ∧ w'.cell? ⟨S, 8, none⟩ = some (.slice ba' bn bc) ∧ w'.cell? ⟨S, 9, none⟩ = some (.slice ia 1 ic) ∧ S < w'.heap.size ∧ Ext w w')
      (refine ⟨?_, ?_, ?_, ?_, ?_, ?_, ?_, ?_, ?_, ?_, ?_, ?_⟩ <;> first | (simp [go_sem, *]; done) | omega | (simp at z1; omega) | (simp at z2; omega) | (simp at z3; omega) | (simp at z4; omega) | exact (by repeat (first | with_reducible exact Ext.refl _ | with_reducible apply Ext.drew | with_reducible apply Ext.drewN | with_reducible apply Ext.alloc | ((with_reducible refine Ext.setCell ?_ ?_ _); rotate_left; focus (first | (simp; done) | (simp; omega) | omega)) | with_reducible refine Ext.tr ?_ x1 | with_reducible refine Ext.tr ?_ xc | with_reducible assumption)))
      (fail)
    all_goals
      go_wp2_with fail
      go_meet
      exact ⟨rfl, rfl, (Blk.new _ _ _).drew, (by repeat (first | with_reducible exact Ext.refl _ | with_reducible apply Ext.drew | with_reducible apply Ext.drewN | with_reducible apply Ext.alloc | ((with_reducible refine Ext.setCell ?_ ?_ _); rotate_left; focus (first | (simp; done) | (simp; omega) | omega)) | with_reducible refine Ext.tr ?_ x1 | with_reducible refine Ext.tr ?_ xc | with_reducible assumption))⟩
  obtain ⟨rfl, rfl, bl, xc⟩ := hcut
  have j9 := xc.cell k9
  have j10 := xc.cell k10
  have g10 := (HBLK.out.ext xc).frozen 10
  have l0 := (bl.cell 0).trans (show (#[.int .i64 (1), .int .i64 I, .int .i64 O, .int .i64 Z, .int .i64 T, .int .i64 P, .int .i64 C, .int .i64 H, .slice ba' bn bc] : Array Value)[0]? = some (.int .i64 (1)) from rfl)
  have l1 := (bl.cell 1).trans (show (#[.int .i64 (1), .int .i64 I, .int .i64 O, .int .i64 Z, .int .i64 T, .int .i64 P, .int .i64 C, .int .i64 H, .slice ba' bn bc] : Array Value)[1]? = some (.int .i64 I) from rfl)
  have l2 := (bl.cell 2).trans (show (#[.int .i64 (1), .int .i64 I, .int .i64 O, .int .i64 Z, .int .i64 T, .int .i64 P, .int .i64 C, .int .i64 H, .slice ba' bn bc] : Array Value)[2]? = some (.int .i64 O) from rfl)
  have zc : w.heap.size < wc.heap.size := bl.lt
  have zSc : S < wc.heap.size := by omega
  have BL := Lib.hid bl
  have XC := Lib.hid xc
  have HB := Lib.hid (HBLK.out.ext xc)
  have HR := Lib.hid (HROW.out.ext xc)
  have GX := Lib.hid ((GB.refl w S).ext xc)
  clear k0 k1 k2 k3 k4 k5 k6 k7 k8 k9 f10 k10 bl xc HROW
  obtain ⟨b, o, rfl, ci⟩ := row_cell HR.out.1 (show 0 < 1 by omega)
  simp only [Nat.add_zero, List.getD_cons_zero] at ci
  have RTK : Row .i64 wc (.slice (some ⟨b, o, none⟩) 0 ic) [] := by
    obtain ⟨_, _, e, r1, r2, r3⟩ := HR.out.1
    cases e
    refine ⟨_, _, rfl, by simp at r1 ⊢, r2, fun _ => ?_⟩
    obtain ⟨b', o', e, hc⟩ := r3 (by simp)
    cases e
    exact ⟨b, o, rfl, fun i hi => by simp at hi⟩
  have hic : (1 : Int) ≤ (ic : Int) := by
    obtain ⟨_, _, e, r1, _⟩ := HR.out.1
    cases e
    simp at r1; omega
  have hic1 : (0 : Int) ≤ (ic : Int) := by omega
  obtain ⟨i0, hi0, hz0, hz1, hz2⟩ := info_parts cloneI_info
  go_wp2_with fail
  go_quiet (fail)
  rename_i nq
  go_wp2_with fail
  obtain ⟨V, hV⟩ : ∃ V, wc.drewN nq = V := ⟨_, rfl⟩
  have xV : Ext wc V := by rw [← hV]; exact (Ext.refl wc).drewN _
  rw [hV]
  have m9 := xV.cell j9
  have m10 := xV.cell j10
  have mf := (HB.out.ext xV).frozen 10
  have ml := xV.cell l2
  have ml1 := xV.cell l1
  have zA : w.heap.size < V.heap.size := Nat.lt_of_lt_of_le zc xV.size
  have zSV : S < V.heap.size := Nat.lt_of_lt_of_le zSc xV.size
  have HBV := Lib.hid (HB.out.ext xV)
  have GV := Lib.hid (GX.out.ext xV)
  have BLV := Lib.hid (BL.out.ext xV)
  have CL := Lib.hid (fun (W : World) (x : Ext V W) => cloneI_any (w := W) ((RTK.ext xV).ext x) (by simp))
  clear j9 j10 g10 l0 l1 l2 ci RTK hV
  go_cut [] (fun W => ∃ oa oc, Blk W S 71 (stepA ⟨1, I, O, Z, T, P, C, H⟩ (.slice ba' bn bc) (.slice (some ⟨b, o, none⟩) 1 ic) (.slice oa 1 oc) (.slice none 0 0) first (ba nm) 0 false) ∧ RowS B W (.slice oa 1 oc) ([] ++ [O]) ∧ GB w W S ∧ W.cell? ⟨w.heap.size, 1, none⟩ = some (.int .i64 I) ∧ W.cell? ⟨w.heap.size, 2, none⟩ = some (.int .i64 O))
  case first => as_aux_lemma =>
    go_region_held3 (fun w' => w'.cell? ⟨S, 9, none⟩ = some (.slice (some ⟨b, o, none⟩) 1 ic) ∧ w'.cell? ⟨w.heap.size, 2, none⟩ = some (.int .i64 O) ∧ S < w'.heap.size ∧ w.heap.size < w'.heap.size)
      (refine ⟨?_, ?_, ?_, ?_⟩ <;> first | (simp [go_sem, *]; done) | omega | (simp at z1; omega) | (simp at z2; omega) | (simp at z3; omega) | (simp at z4; omega) | exact (by repeat (first | with_reducible exact Ext.refl _ | with_reducible apply Ext.drew | with_reducible apply Ext.drewN | with_reducible apply Ext.alloc | ((with_reducible refine Ext.setCell ?_ ?_ _); rotate_left; focus (first | (simp; done) | (simp; omega) | omega)) | with_reducible refine Ext.tr ?_ x1 | with_reducible refine Ext.tr ?_ xc | with_reducible assumption)))
      (first
        | ((go_at_call 34; refine (CL.out _ (by repeat (first | with_reducible exact Ext.refl _ | with_reducible apply Ext.drew | with_reducible apply Ext.drewN | with_reducible apply Ext.alloc | ((with_reducible refine Ext.setCell ?_ ?_ _); rotate_left; focus (first | (simp; done) | (simp; omega) | omega)) | with_reducible refine Ext.tr ?_ x1 | with_reducible refine Ext.tr ?_ xc | with_reducible assumption))).mono ?_; rintro e v1 ⟨q1, rfl, x1, h1⟩; obtain ⟨c1, f1⟩ := x1.rules; have z1 := x1.size; (try (have k1_V_heap_size_0 := c1 (V.heap.size) 0 (by first | (simp; done) | (simp; omega) | omega); have q1_V_heap_size_0 := f1 (V.heap.size) 0 (by first | (simp; done) | (simp; omega) | omega); have z1_V_heap_size : V.heap.size < v1.heap.size := (by (try simp at z1); omega); simp [go_sem, *, -c1, -f1] at k1_V_heap_size_0 q1_V_heap_size_0)); clear CL; obtain ⟨qa, qc, rfl⟩ := own_form2 h1; have OW1 := Lib.hid (own_base (base' := V.heap.size) h1 (by simp)); clear h1; have y1 : Ext V v1 := (by repeat (first | with_reducible exact Ext.refl _ | with_reducible apply Ext.drew | with_reducible apply Ext.drewN | with_reducible apply Ext.alloc | ((with_reducible refine Ext.setCell ?_ ?_ _); rotate_left; focus (first | (simp; done) | (simp; omega) | omega)) | with_reducible refine Ext.tr ?_ x1 | with_reducible refine Ext.tr ?_ xc | with_reducible assumption)); have zy := y1.size; have n9 := y1.cell m9; have n10 := y1.cell m10; have nf := (HBV.out.ext y1).frozen 10; have nl := y1.cell ml; have nl1 := y1.cell ml1; have zn := cell_lt n9; have zl := cell_lt nl; simp only at zn zl))
        | ((refine step_append_lies _ rfl (.tmp 67) (.tmp 70) 24 rfl V.heap.size 3 i0 (.int .i64 0) 1 8 Tryd.underlying24 hi0 hz0 hz1 hz2 rfl (by decide) (.slice qa 0 qc) 0 ([].map (Value.int .i64)) (by simp [Act.eval]) (OW1.out.alloc _) ⟨v1.heap.size, 0, none⟩ 1 1 [.int .i64 O] (by simp [Act.eval]) rfl (World.news_of_block (cs := #[.int .i64 O]) (t := 3) (fr := (0, 0)) (heap_alloc_new v1 _)) (by simp [Value.oneCell']) (by decide) (by unfold maxLen; omega) (by omega) (by simp; omega) (v1.heap.size + 1) (by simp) ?_; intro gg cc w1 hown1 hgrow hat hlt1; have t1' := ((HBV.out.ext y1).alloc (.cells #[.int .i64 O] 3)).grown hgrow (fun e => by have := (OW1.out.lt _ e.symm).1; omega); have b1' := ((BLV.out.ext y1).alloc (.cells #[.int .i64 O] 3)).grown hgrow (fun e => by have := (OW1.out.lt _ e.symm).1; omega); have n9' := (t1'.cell 9).trans (show (stepA ⟨1, I, O, Z, T, P, C, H⟩ (.slice ba' bn bc) (.slice (some ⟨b, o, none⟩) 1 ic) (.slice none 0 0) (.slice none 0 0) first (ba nm) 0 false)[9]? = some (.slice (some ⟨b, o, none⟩) 1 ic) from rfl); have n10' := (t1'.cell 10).trans (show (stepA ⟨1, I, O, Z, T, P, C, H⟩ (.slice ba' bn bc) (.slice (some ⟨b, o, none⟩) 1 ic) (.slice none 0 0) (.slice none 0 0) first (ba nm) 0 false)[10]? = some (.slice none 0 0) from rfl); have nf' := t1'.frozen 10; have nl' := (b1'.cell 2).trans (show (#[.int .i64 1, .int .i64 I, .int .i64 O, .int .i64 Z, .int .i64 T, .int .i64 P, .int .i64 C, .int .i64 H, .slice ba' bn bc] : Array Value)[2]? = some (.int .i64 O) from rfl); have zn' := t1'.lt; have zl' := b1'.lt))
        | ((refine step_append_lies _ rfl (.tmp 67) (.tmp 70) 24 rfl V.heap.size 3 i0 (.int .i64 0) 1 8 Tryd.underlying24 hi0 hz0 hz1 hz2 rfl (by decide) (.slice qa 0 qc) 0 ([].map (Value.int .i64)) (by simp [Act.eval]) OW1.out ⟨V.heap.size, 0, none⟩ 1 1 [.int .i64 O] (by simp [Act.eval]) rfl (src_cell k1_V_heap_size_0) (by simp [Value.oneCell']) (by decide) (by unfold maxLen; omega) (by omega) (by omega) v1.heap.size rfl ?_; intro gg cc w1 hown1 hgrow hat hlt1; have t1' := (HBV.out.ext y1).grown hgrow (fun e => by have := (OW1.out.lt _ e.symm).1; omega); have b1' := (BLV.out.ext y1).grown hgrow (fun e => by have := (OW1.out.lt _ e.symm).1; omega); have n9' := (t1'.cell 9).trans (show (stepA ⟨1, I, O, Z, T, P, C, H⟩ (.slice ba' bn bc) (.slice (some ⟨b, o, none⟩) 1 ic) (.slice none 0 0) (.slice none 0 0) first (ba nm) 0 false)[9]? = some (.slice (some ⟨b, o, none⟩) 1 ic) from rfl); have n10' := (t1'.cell 10).trans (show (stepA ⟨1, I, O, Z, T, P, C, H⟩ (.slice ba' bn bc) (.slice (some ⟨b, o, none⟩) 1 ic) (.slice none 0 0) (.slice none 0 0) first (ba nm) 0 false)[10]? = some (.slice none 0 0) from rfl); have nf' := t1'.frozen 10; have nl' := (b1'.cell 2).trans (show (#[.int .i64 1, .int .i64 I, .int .i64 O, .int .i64 Z, .int .i64 T, .int .i64 P, .int .i64 C, .int .i64 H, .slice ba' bn bc] : Array Value)[2]? = some (.int .i64 O) from rfl); have zn' := t1'.lt; have zl' := b1'.lt)))
    · have hne : w.heap.size ≠ S := by omega
      have nl1' := b1'.cells 1 (show _ = some (.int .i64 I) from rfl)
      go_wp2_with fail
      go_meet
      exact ⟨some ⟨gg, 0, none⟩, cc, t1'.set_ 10 _, RowS.of_own (xs := [] ++ [O]) (ownsRow_setCell_below hown1 zSV _), (((GV.out.ext (show Ext V (v1.alloc (.cells #[.int .i64 O] 3)) from y1.alloc _)).grown hgrow (fun k hk => by have := (OW1.out.lt k hk).1; omega)).set 10 _), by rw [cell_set_far _ _ _ _ _ _ (fun e => hne e.symm)]; exact nl1', by rw [cell_set_far _ _ _ _ _ _ (fun e => hne e.symm)]; exact nl'⟩
    · have hne : w.heap.size ≠ S := by omega
      have nl1' := b1'.cells 1 (show _ = some (.int .i64 I) from rfl)
      go_wp2_with fail
      go_meet
      exact ⟨some ⟨gg, 0, none⟩, cc, t1'.set_ 10 _, RowS.of_own (xs := [] ++ [O]) (ownsRow_setCell_below hown1 zSV _), (((GV.out.ext y1).grown hgrow (fun k hk => by have := (OW1.out.lt k hk).1; omega)).set 10 _), by rw [cell_set_far _ _ _ _ _ _ (fun e => hne e.symm)]; exact nl1', by rw [cell_set_far _ _ _ _ _ _ (fun e => hne e.symm)]; exact nl'⟩
  obtain ⟨oa, oc, ub, ur, ug, c1, c2⟩ := hcut
  have hne : w.heap.size ≠ S := by omega
  have zu := ub.lt
  have zw := cell_lt c1
  simp only at zw
  have UB := Lib.hid ub
  have UR := Lib.hid ur
  have UG := Lib.hid ug
  clear ub ur ug
  go_wp2_with fail
  refine (sparam_any (B := w.heap.size + 1) (l1 := [119]) (sh := [I, O]) (UB.out.ext (by repeat (first | with_reducible exact Ext.refl _ | with_reducible apply Ext.drew | with_reducible apply Ext.drewN | with_reducible apply Ext.alloc | ((with_reducible refine Ext.setCell ?_ ?_ _); rotate_left; focus (first | (simp; done) | (simp; omega) | omega)) | with_reducible refine Ext.tr ?_ x1 | with_reducible refine Ext.tr ?_ xc | with_reducible assumption))) (ParsAt.nil _ _) (by simp; omega) (by omega) rfl (by simp) hname (by simp) (fresh_own _ rfl (by omega) [I, O] (by simp [maxLen]))).mono ?_
  rintro e w1 ⟨pa, pc, rfl, b1, p1, h1⟩
  have X1 := Lib.hid (show Ext wc (wc.alloc (.cells (ints [I, O]) 3)) from (by repeat (first | with_reducible exact Ext.refl _ | with_reducible apply Ext.drew | with_reducible apply Ext.drewN | with_reducible apply Ext.alloc | ((with_reducible refine Ext.setCell ?_ ?_ _); rotate_left; focus (first | (simp; done) | (simp; omega) | omega)) | with_reducible refine Ext.tr ?_ x1 | with_reducible refine Ext.tr ?_ xc | with_reducible assumption)))
  have d1 := h1.cell (p := ⟨w.heap.size, 1, none⟩) (X1.out.cell c1) (by simp) hne
  have d2 := h1.cell (p := ⟨w.heap.size, 2, none⟩) (X1.out.cell c2) (by simp) hne
  have z1 := h1.size
  simp at z1
  have zb1 := b1.lt
  have B1 := Lib.hid b1
  have P1 := Lib.hid p1
  have R1 := Lib.hid ((UR.out.ext X1.out).chg h1 (by omega) hlow)
  have G1 := Lib.hid (Chg.gb (UG.out.ext X1.out) (h1.low (by omega)))
  clear b1 p1 h1 c1 c2 UB UR UG
  go_wp2_with fail
  refine (sparam_any (B := w.heap.size + 1) (l1 := [98]) (sh := [O]) (B1.out.ext (by repeat (first | with_reducible exact Ext.refl _ | with_reducible apply Ext.drew | with_reducible apply Ext.drewN | with_reducible apply Ext.alloc | ((with_reducible refine Ext.setCell ?_ ?_ _); rotate_left; focus (first | (simp; done) | (simp; omega) | omega)) | with_reducible refine Ext.tr ?_ x1 | with_reducible refine Ext.tr ?_ xc | with_reducible assumption))) (P1.out.ext (by repeat (first | with_reducible exact Ext.refl _ | with_reducible apply Ext.drew | with_reducible apply Ext.drewN | with_reducible apply Ext.alloc | ((with_reducible refine Ext.setCell ?_ ?_ _); rotate_left; focus (first | (simp; done) | (simp; omega) | omega)) | with_reducible refine Ext.tr ?_ x1 | with_reducible refine Ext.tr ?_ xc | with_reducible assumption))) (by simp; omega) (by omega) rfl (by simp) hname (by simp) (fresh_own _ rfl (by omega) [O] (by simp [maxLen]))).mono ?_
  rintro e w2 ⟨pa2, pc2, rfl, b2, p2, h2⟩
  have X2 := Lib.hid (show Ext w1 (w1.alloc (.cells (ints [O]) 3)) from (by repeat (first | with_reducible exact Ext.refl _ | with_reducible apply Ext.drew | with_reducible apply Ext.drewN | with_reducible apply Ext.alloc | ((with_reducible refine Ext.setCell ?_ ?_ _); rotate_left; focus (first | (simp; done) | (simp; omega) | omega)) | with_reducible refine Ext.tr ?_ x1 | with_reducible refine Ext.tr ?_ xc | with_reducible assumption)))
  have B2 := Lib.hid b2
  have P2 := Lib.hid p2
  have R2 := Lib.hid ((R1.out.ext X2.out).chg h2 (by omega) hlow)
  have G2 := Lib.hid (Chg.gb (G1.out.ext X2.out) (h2.low (by omega)))
  clear b2 p2 h2 d1 d2
  go_wp2
  go_ret
  exact ⟨rfl, G2.out, oa, oc, pa2, pc2, B2.out, R2.out, by simpa using P2.out.base (by omega)⟩
set_option maxHeartbeats 8000000 in
set_option maxRecDepth 100000 in
theorem does_lin_2 {B S : Nat} {w : World} {I O Z T P C H : Int} {ba' ia : Option Addr} {bn bc ic : Nat} {first : Bool} {nm : Bs} {a : Int} (h : DoesAt B w S ⟨1, I, O, Z, T, P, C, H⟩ (.slice ba' bn bc) (.slice ia 2 ic) first nm [a, I]) :
    Calls Tryd.prog 67 #[.pointer (some ⟨S, 0, none⟩)] w fun e w' => DoesP B w S ⟨1, I, O, Z, T, P, C, H⟩ (.slice ba' bn bc) (.slice ia 2 ic) first nm e w' (some ([a, O], [⟨nm ++ [46, 119], [I, O], I, O⟩, ⟨nm ++ [46, 98], [O], 0, 0⟩])) := by
  obtain ⟨hblk, hrow, hlow, hdim, hname⟩ := h
  obtain ⟨d1, d2, d3, d4⟩ := fullS_dims hdim
  have zS := hblk.lt
  have k0 := (hblk.cell 0).trans (show (stepA ⟨1, I, O, Z, T, P, C, H⟩ (.slice ba' bn bc) (.slice ia 2 ic) (.slice none 0 0) (.slice none 0 0) first (ba nm) 0 false)[0]? = some (.int .i64 1) from rfl)
  have k1 := (hblk.cell 1).trans (show (stepA ⟨1, I, O, Z, T, P, C, H⟩ (.slice ba' bn bc) (.slice ia 2 ic) (.slice none 0 0) (.slice none 0 0) first (ba nm) 0 false)[1]? = some (.int .i64 I) from rfl)
  have k2 := (hblk.cell 2).trans (show (stepA ⟨1, I, O, Z, T, P, C, H⟩ (.slice ba' bn bc) (.slice ia 2 ic) (.slice none 0 0) (.slice none 0 0) first (ba nm) 0 false)[2]? = some (.int .i64 O) from rfl)
  have k3 := (hblk.cell 3).trans (show (stepA ⟨1, I, O, Z, T, P, C, H⟩ (.slice ba' bn bc) (.slice ia 2 ic) (.slice none 0 0) (.slice none 0 0) first (ba nm) 0 false)[3]? = some (.int .i64 Z) from rfl)
  have k4 := (hblk.cell 4).trans (show (stepA ⟨1, I, O, Z, T, P, C, H⟩ (.slice ba' bn bc) (.slice ia 2 ic) (.slice none 0 0) (.slice none 0 0) first (ba nm) 0 false)[4]? = some (.int .i64 T) from rfl)
  have k5 := (hblk.cell 5).trans (show (stepA ⟨1, I, O, Z, T, P, C, H⟩ (.slice ba' bn bc) (.slice ia 2 ic) (.slice none 0 0) (.slice none 0 0) first (ba nm) 0 false)[5]? = some (.int .i64 P) from rfl)
  have k6 := (hblk.cell 6).trans (show (stepA ⟨1, I, O, Z, T, P, C, H⟩ (.slice ba' bn bc) (.slice ia 2 ic) (.slice none 0 0) (.slice none 0 0) first (ba nm) 0 false)[6]? = some (.int .i64 C) from rfl)
  have k7 := (hblk.cell 7).trans (show (stepA ⟨1, I, O, Z, T, P, C, H⟩ (.slice ba' bn bc) (.slice ia 2 ic) (.slice none 0 0) (.slice none 0 0) first (ba nm) 0 false)[7]? = some (.int .i64 H) from rfl)
  have k8 := (hblk.cell 8).trans (show (stepA ⟨1, I, O, Z, T, P, C, H⟩ (.slice ba' bn bc) (.slice ia 2 ic) (.slice none 0 0) (.slice none 0 0) first (ba nm) 0 false)[8]? = some (.slice ba' bn bc) from rfl)
  have k9 := (hblk.cell 9).trans (show (stepA ⟨1, I, O, Z, T, P, C, H⟩ (.slice ba' bn bc) (.slice ia 2 ic) (.slice none 0 0) (.slice none 0 0) first (ba nm) 0 false)[9]? = some (.slice ia 2 ic) from rfl)
  have f10 := hblk.frozen 10
  have k10 := (hblk.cell 10).trans (show (stepA ⟨1, I, O, Z, T, P, C, H⟩ (.slice ba' bn bc) (.slice ia 2 ic) (.slice none 0 0) (.slice none 0 0) first (ba nm) 0 false)[10]? = some (.slice none 0 0) from rfl)
  have HBLK := Lib.hid hblk
  have HROW := Lib.hid hrow
  have HD := Lib.hid d2
  clear hblk hrow hdim d2
  go_enter Tryd.func67, Tryd.ntmps67
  go_wp2_with fail
  go_cut [3, 4] (fun s3 s4 W => s3 = .pointer (some ⟨w.heap.size, 0, none⟩) ∧ s4 = .int .i64 (1) ∧ Blk W w.heap.size 52 #[.int .i64 (1), .int .i64 I, .int .i64 O, .int .i64 Z, .int .i64 T, .int .i64 P, .int .i64 C, .int .i64 H, .slice ba' bn bc] ∧ Ext w W)
  case first => as_aux_lemma =>
    go_region_held3 (fun w' => w'.cell? ⟨S, 0, none⟩ = some (.int .i64 1) ∧ w'.cell? ⟨S, 1, none⟩ = some (.int .i64 I) ∧ w'.cell? ⟨S, 2, none⟩ = some (.int .i64 O) ∧ w'.cell? ⟨S, 3, none⟩ = some (.int .i64 Z) ∧ w'.cell? ⟨S, 4, none⟩ = some (.int .i64 T) ∧ w'.cell? ⟨S, 5, none⟩ = some (.int .i64 P) ∧ w'.cell? ⟨S, 6, none⟩ = some (.int .i64 C) ∧ w'.cell? ⟨S, 7, none⟩ = some (.int .i64 H) ∧ w'.cell? ⟨S, 8, none⟩ = some (.slice ba' bn bc) ∧ w'.cell? ⟨S, 9, none⟩ = some (.slice ia 2 ic) ∧ S < w'.heap.size ∧ Ext w w')
      (refine ⟨?_, ?_, ?_, ?_, ?_, ?_, ?_, ?_, ?_, ?_, ?_, ?_⟩ <;> first | (simp [go_sem, *]; done) | omega | (simp at z1; omega) | (simp at z2; omega) | (simp at z3; omega) | (simp at z4; omega) | exact (by repeat (first | with_reducible exact Ext.refl _ | with_reducible apply Ext.drew | with_reducible apply Ext.drewN | with_reducible apply Ext.alloc | ((with_reducible refine Ext.setCell ?_ ?_ _); rotate_left; focus (first | (simp; done) | (simp; omega) | omega)) | with_reducible refine Ext.tr ?_ x1 | with_reducible refine Ext.tr ?_ xc | with_reducible assumption)))
      (fail)
    all_goals
      go_wp2_with fail
      go_meet
      exact ⟨rfl, rfl, (Blk.new _ _ _).drew, (by repeat (first | with_reducible exact Ext.refl _ | with_reducible apply Ext.drew | with_reducible apply Ext.drewN | with_reducible apply Ext.alloc | ((with_reducible refine Ext.setCell ?_ ?_ _); rotate_left; focus (first | (simp; done) | (simp; omega) | omega)) | with_reducible refine Ext.tr ?_ x1 | with_reducible refine Ext.tr ?_ xc | with_reducible assumption))⟩
  obtain ⟨rfl, rfl, bl, xc⟩ := hcut
  have j9 := xc.cell k9
  have j10 := xc.cell k10
  have g10 := (HBLK.out.ext xc).frozen 10
  have l0 := (bl.cell 0).trans (show (#[.int .i64 (1), .int .i64 I, .int .i64 O, .int .i64 Z, .int .i64 T, .int .i64 P, .int .i64 C, .int .i64 H, .slice ba' bn bc] : Array Value)[0]? = some (.int .i64 (1)) from rfl)
  have l1 := (bl.cell 1).trans (show (#[.int .i64 (1), .int .i64 I, .int .i64 O, .int .i64 Z, .int .i64 T, .int .i64 P, .int .i64 C, .int .i64 H, .slice ba' bn bc] : Array Value)[1]? = some (.int .i64 I) from rfl)
  have l2 := (bl.cell 2).trans (show (#[.int .i64 (1), .int .i64 I, .int .i64 O, .int .i64 Z, .int .i64 T, .int .i64 P, .int .i64 C, .int .i64 H, .slice ba' bn bc] : Array Value)[2]? = some (.int .i64 O) from rfl)
  have zc : w.heap.size < wc.heap.size := bl.lt
  have zSc : S < wc.heap.size := by omega
  have BL := Lib.hid bl
  have XC := Lib.hid xc
  have HB := Lib.hid (HBLK.out.ext xc)
  have HR := Lib.hid (HROW.out.ext xc)
  have GX := Lib.hid ((GB.refl w S).ext xc)
  clear k0 k1 k2 k3 k4 k5 k6 k7 k8 k9 f10 k10 bl xc HROW
  obtain ⟨b, o, rfl, ci⟩ := row_cell HR.out.1 (show 1 < 2 by omega)
  simp only [List.getD_cons_succ, List.getD_cons_zero] at ci
  have RTK : Row .i64 wc (.slice (some ⟨b, o, none⟩) 1 ic) [a] := by
    obtain ⟨_, _, e, r1, r2, r3⟩ := HR.out.1
    cases e
    refine ⟨_, _, rfl, by simp at r1 ⊢; omega, r2, fun _ => ?_⟩
    obtain ⟨b', o', e, hc⟩ := r3 (by simp)
    cases e
    exact ⟨b, o, rfl, fun i hi => by have hi0 : i = 0 := (by simpa using hi); subst hi0; exact hc 0 (by simp)⟩
  have hic : (2 : Int) ≤ (ic : Int) := by
    obtain ⟨_, _, e, r1, _⟩ := HR.out.1
    cases e
    simp at r1; omega
  have hic1 : (1 : Int) ≤ (ic : Int) := by omega
  obtain ⟨i0, hi0, hz0, hz1, hz2⟩ := info_parts cloneI_info
  go_wp2_with fail
  go_quiet (fail)
  rename_i nq
  go_wp2_with fail
  obtain ⟨V, hV⟩ : ∃ V, wc.drewN nq = V := ⟨_, rfl⟩
  have xV : Ext wc V := by rw [← hV]; exact (Ext.refl wc).drewN _
  rw [hV]
  have m9 := xV.cell j9
  have m10 := xV.cell j10
  have mf := (HB.out.ext xV).frozen 10
  have ml := xV.cell l2
  have ml1 := xV.cell l1
  have zA : w.heap.size < V.heap.size := Nat.lt_of_lt_of_le zc xV.size
  have zSV : S < V.heap.size := Nat.lt_of_lt_of_le zSc xV.size
  have HBV := Lib.hid (HB.out.ext xV)
  have GV := Lib.hid (GX.out.ext xV)
  have BLV := Lib.hid (BL.out.ext xV)
  have CL := Lib.hid (fun (W : World) (x : Ext V W) => cloneI_any (w := W) ((RTK.ext xV).ext x) (by simp))
  clear j9 j10 g10 l0 l1 l2 ci RTK hV
  go_cut [] (fun W => ∃ oa oc, Blk W S 71 (stepA ⟨1, I, O, Z, T, P, C, H⟩ (.slice ba' bn bc) (.slice (some ⟨b, o, none⟩) 2 ic) (.slice oa 2 oc) (.slice none 0 0) first (ba nm) 0 false) ∧ RowS B W (.slice oa 2 oc) ([a] ++ [O]) ∧ GB w W S ∧ W.cell? ⟨w.heap.size, 1, none⟩ = some (.int .i64 I) ∧ W.cell? ⟨w.heap.size, 2, none⟩ = some (.int .i64 O))
  case first => as_aux_lemma =>
    go_region_held3 (fun w' => w'.cell? ⟨S, 9, none⟩ = some (.slice (some ⟨b, o, none⟩) 2 ic) ∧ w'.cell? ⟨w.heap.size, 2, none⟩ = some (.int .i64 O) ∧ S < w'.heap.size ∧ w.heap.size < w'.heap.size)
      (refine ⟨?_, ?_, ?_, ?_⟩ <;> first | (simp [go_sem, *]; done) | omega | (simp at z1; omega) | (simp at z2; omega) | (simp at z3; omega) | (simp at z4; omega) | exact (by repeat (first | with_reducible exact Ext.refl _ | with_reducible apply Ext.drew | with_reducible apply Ext.drewN | with_reducible apply Ext.alloc | ((with_reducible refine Ext.setCell ?_ ?_ _); rotate_left; focus (first | (simp; done) | (simp; omega) | omega)) | with_reducible refine Ext.tr ?_ x1 | with_reducible refine Ext.tr ?_ xc | with_reducible assumption)))
      (first
        | ((go_at_call 34; refine (CL.out _ (by repeat (first | with_reducible exact Ext.refl _ | with_reducible apply Ext.drew | with_reducible apply Ext.drewN | with_reducible apply Ext.alloc | ((with_reducible refine Ext.setCell ?_ ?_ _); rotate_left; focus (first | (simp; done) | (simp; omega) | omega)) | with_reducible refine Ext.tr ?_ x1 | with_reducible refine Ext.tr ?_ xc | with_reducible assumption))).mono ?_; rintro e v1 ⟨q1, rfl, x1, h1⟩; obtain ⟨c1, f1⟩ := x1.rules; have z1 := x1.size; (try (have k1_V_heap_size_0 := c1 (V.heap.size) 0 (by first | (simp; done) | (simp; omega) | omega); have q1_V_heap_size_0 := f1 (V.heap.size) 0 (by first | (simp; done) | (simp; omega) | omega); have z1_V_heap_size : V.heap.size < v1.heap.size := (by (try simp at z1); omega); simp [go_sem, *, -c1, -f1] at k1_V_heap_size_0 q1_V_heap_size_0)); clear CL; obtain ⟨qa, qc, rfl⟩ := own_form2 h1; have OW1 := Lib.hid (own_base (base' := V.heap.size) h1 (by simp)); clear h1; have y1 : Ext V v1 := (by repeat (first | with_reducible exact Ext.refl _ | with_reducible apply Ext.drew | with_reducible apply Ext.drewN | with_reducible apply Ext.alloc | ((with_reducible refine Ext.setCell ?_ ?_ _); rotate_left; focus (first | (simp; done) | (simp; omega) | omega)) | with_reducible refine Ext.tr ?_ x1 | with_reducible refine Ext.tr ?_ xc | with_reducible assumption)); have zy := y1.size; have n9 := y1.cell m9; have n10 := y1.cell m10; have nf := (HBV.out.ext y1).frozen 10; have nl := y1.cell ml; have nl1 := y1.cell ml1; have zn := cell_lt n9; have zl := cell_lt nl; simp only at zn zl))
        | ((refine step_append_lies _ rfl (.tmp 67) (.tmp 70) 24 rfl V.heap.size 3 i0 (.int .i64 0) 1 8 Tryd.underlying24 hi0 hz0 hz1 hz2 rfl (by decide) (.slice qa 1 qc) 1 ([a].map (Value.int .i64)) (by simp [Act.eval]) (OW1.out.alloc _) ⟨v1.heap.size, 0, none⟩ 1 1 [.int .i64 O] (by simp [Act.eval]) rfl (World.news_of_block (cs := #[.int .i64 O]) (t := 3) (fr := (0, 0)) (heap_alloc_new v1 _)) (by simp [Value.oneCell']) (by decide) (by unfold maxLen; omega) (by omega) (by simp; omega) (v1.heap.size + 1) (by simp) ?_; intro gg cc w1 hown1 hgrow hat hlt1; have t1' := ((HBV.out.ext y1).alloc (.cells #[.int .i64 O] 3)).grown hgrow (fun e => by have := (OW1.out.lt _ e.symm).1; omega); have b1' := ((BLV.out.ext y1).alloc (.cells #[.int .i64 O] 3)).grown hgrow (fun e => by have := (OW1.out.lt _ e.symm).1; omega); have n9' := (t1'.cell 9).trans (show (stepA ⟨1, I, O, Z, T, P, C, H⟩ (.slice ba' bn bc) (.slice (some ⟨b, o, none⟩) 2 ic) (.slice none 0 0) (.slice none 0 0) first (ba nm) 0 false)[9]? = some (.slice (some ⟨b, o, none⟩) 2 ic) from rfl); have n10' := (t1'.cell 10).trans (show (stepA ⟨1, I, O, Z, T, P, C, H⟩ (.slice ba' bn bc) (.slice (some ⟨b, o, none⟩) 2 ic) (.slice none 0 0) (.slice none 0 0) first (ba nm) 0 false)[10]? = some (.slice none 0 0) from rfl); have nf' := t1'.frozen 10; have nl' := (b1'.cell 2).trans (show (#[.int .i64 1, .int .i64 I, .int .i64 O, .int .i64 Z, .int .i64 T, .int .i64 P, .int .i64 C, .int .i64 H, .slice ba' bn bc] : Array Value)[2]? = some (.int .i64 O) from rfl); have zn' := t1'.lt; have zl' := b1'.lt))
        | ((refine step_append_lies _ rfl (.tmp 67) (.tmp 70) 24 rfl V.heap.size 3 i0 (.int .i64 0) 1 8 Tryd.underlying24 hi0 hz0 hz1 hz2 rfl (by decide) (.slice qa 1 qc) 1 ([a].map (Value.int .i64)) (by simp [Act.eval]) OW1.out ⟨V.heap.size, 0, none⟩ 1 1 [.int .i64 O] (by simp [Act.eval]) rfl (src_cell k1_V_heap_size_0) (by simp [Value.oneCell']) (by decide) (by unfold maxLen; omega) (by omega) (by omega) v1.heap.size rfl ?_; intro gg cc w1 hown1 hgrow hat hlt1; have t1' := (HBV.out.ext y1).grown hgrow (fun e => by have := (OW1.out.lt _ e.symm).1; omega); have b1' := (BLV.out.ext y1).grown hgrow (fun e => by have := (OW1.out.lt _ e.symm).1; omega); have n9' := (t1'.cell 9).trans (show (stepA ⟨1, I, O, Z, T, P, C, H⟩ (.slice ba' bn bc) (.slice (some ⟨b, o, none⟩) 2 ic) (.slice none 0 0) (.slice none 0 0) first (ba nm) 0 false)[9]? = some (.slice (some ⟨b, o, none⟩) 2 ic) from rfl); have n10' := (t1'.cell 10).trans (show (stepA ⟨1, I, O, Z, T, P, C, H⟩ (.slice ba' bn bc) (.slice (some ⟨b, o, none⟩) 2 ic) (.slice none 0 0) (.slice none 0 0) first (ba nm) 0 false)[10]? = some (.slice none 0 0) from rfl); have nf' := t1'.frozen 10; have nl' := (b1'.cell 2).trans (show (#[.int .i64 1, .int .i64 I, .int .i64 O, .int .i64 Z, .int .i64 T, .int .i64 P, .int .i64 C, .int .i64 H, .slice ba' bn bc] : Array Value)[2]? = some (.int .i64 O) from rfl); have zn' := t1'.lt; have zl' := b1'.lt)))
    · have hne : w.heap.size ≠ S := by omega
      have nl1' := b1'.cells 1 (show _ = some (.int .i64 I) from rfl)
      go_wp2_with fail
      go_meet
      exact ⟨some ⟨gg, 0, none⟩, cc, t1'.set_ 10 _, RowS.of_own (xs := [a] ++ [O]) (ownsRow_setCell_below hown1 zSV _), (((GV.out.ext (show Ext V (v1.alloc (.cells #[.int .i64 O] 3)) from y1.alloc _)).grown hgrow (fun k hk => by have := (OW1.out.lt k hk).1; omega)).set 10 _), by rw [cell_set_far _ _ _ _ _ _ (fun e => hne e.symm)]; exact nl1', by rw [cell_set_far _ _ _ _ _ _ (fun e => hne e.symm)]; exact nl'⟩
    · have hne : w.heap.size ≠ S := by omega
      have nl1' := b1'.cells 1 (show _ = some (.int .i64 I) from rfl)
      go_wp2_with fail
      go_meet
      exact ⟨some ⟨gg, 0, none⟩, cc, t1'.set_ 10 _, RowS.of_own (xs := [a] ++ [O]) (ownsRow_setCell_below hown1 zSV _), (((GV.out.ext y1).grown hgrow (fun k hk => by have := (OW1.out.lt k hk).1; omega)).set 10 _), by rw [cell_set_far _ _ _ _ _ _ (fun e => hne e.symm)]; exact nl1', by rw [cell_set_far _ _ _ _ _ _ (fun e => hne e.symm)]; exact nl'⟩
  obtain ⟨oa, oc, ub, ur, ug, c1, c2⟩ := hcut
  have hne : w.heap.size ≠ S := by omega
  have zu := ub.lt
  have zw := cell_lt c1
  simp only at zw
  have UB := Lib.hid ub
  have UR := Lib.hid ur
  have UG := Lib.hid ug
  clear ub ur ug
  go_wp2_with fail
  refine (sparam_any (B := w.heap.size + 1) (l1 := [119]) (sh := [I, O]) (UB.out.ext (by repeat (first | with_reducible exact Ext.refl _ | with_reducible apply Ext.drew | with_reducible apply Ext.drewN | with_reducible apply Ext.alloc | ((with_reducible refine Ext.setCell ?_ ?_ _); rotate_left; focus (first | (simp; done) | (simp; omega) | omega)) | with_reducible refine Ext.tr ?_ x1 | with_reducible refine Ext.tr ?_ xc | with_reducible assumption))) (ParsAt.nil _ _) (by simp; omega) (by omega) rfl (by simp) hname (by simp) (fresh_own _ rfl (by omega) [I, O] (by simp [maxLen]))).mono ?_
  rintro e w1 ⟨pa, pc, rfl, b1, p1, h1⟩
  have X1 := Lib.hid (show Ext wc (wc.alloc (.cells (ints [I, O]) 3)) from (by repeat (first | with_reducible exact Ext.refl _ | with_reducible apply Ext.drew | with_reducible apply Ext.drewN | with_reducible apply Ext.alloc | ((with_reducible refine Ext.setCell ?_ ?_ _); rotate_left; focus (first | (simp; done) | (simp; omega) | omega)) | with_reducible refine Ext.tr ?_ x1 | with_reducible refine Ext.tr ?_ xc | with_reducible assumption)))
  have d1 := h1.cell (p := ⟨w.heap.size, 1, none⟩) (X1.out.cell c1) (by simp) hne
  have d2 := h1.cell (p := ⟨w.heap.size, 2, none⟩) (X1.out.cell c2) (by simp) hne
  have z1 := h1.size
  simp at z1
  have zb1 := b1.lt
  have B1 := Lib.hid b1
  have P1 := Lib.hid p1
  have R1 := Lib.hid ((UR.out.ext X1.out).chg h1 (by omega) hlow)
  have G1 := Lib.hid (Chg.gb (UG.out.ext X1.out) (h1.low (by omega)))
  clear b1 p1 h1 c1 c2 UB UR UG
  go_wp2_with fail
  refine (sparam_any (B := w.heap.size + 1) (l1 := [98]) (sh := [O]) (B1.out.ext (by repeat (first | with_reducible exact Ext.refl _ | with_reducible apply Ext.drew | with_reducible apply Ext.drewN | with_reducible apply Ext.alloc | ((with_reducible refine Ext.setCell ?_ ?_ _); rotate_left; focus (first | (simp; done) | (simp; omega) | omega)) | with_reducible refine Ext.tr ?_ x1 | with_reducible refine Ext.tr ?_ xc | with_reducible assumption))) (P1.out.ext (by repeat (first | with_reducible exact Ext.refl _ | with_reducible apply Ext.drew | with_reducible apply Ext.drewN | with_reducible apply Ext.alloc | ((with_reducible refine Ext.setCell ?_ ?_ _); rotate_left; focus (first | (simp; done) | (simp; omega) | omega)) | with_reducible refine Ext.tr ?_ x1 | with_reducible refine Ext.tr ?_ xc | with_reducible assumption))) (by simp; omega) (by omega) rfl (by simp) hname (by simp) (fresh_own _ rfl (by omega) [O] (by simp [maxLen]))).mono ?_
  rintro e w2 ⟨pa2, pc2, rfl, b2, p2, h2⟩
  have X2 := Lib.hid (show Ext w1 (w1.alloc (.cells (ints [O]) 3)) from (by repeat (first | with_reducible exact Ext.refl _ | with_reducible apply Ext.drew | with_reducible apply Ext.drewN | with_reducible apply Ext.alloc | ((with_reducible refine Ext.setCell ?_ ?_ _); rotate_left; focus (first | (simp; done) | (simp; omega) | omega)) | with_reducible refine Ext.tr ?_ x1 | with_reducible refine Ext.tr ?_ xc | with_reducible assumption)))
  have B2 := Lib.hid b2
  have P2 := Lib.hid p2
  have R2 := Lib.hid ((R1.out.ext X2.out).chg h2 (by omega) hlow)
  have G2 := Lib.hid (Chg.gb (G1.out.ext X2.out) (h2.low (by omega)))
  clear b2 p2 h2 d1 d2
  go_wp2
  go_ret
  exact ⟨rfl, G2.out, oa, oc, pa2, pc2, B2.out, R2.out, by simpa using P2.out.base (by omega)⟩
end Go.Proofs.YtgokenbojppnhaaDoor
