/- (*infer.step).does: a linear layer. -/
import Derived.Test.YtgokenbojppnhaaDoorInfDoes0
namespace Go.Proofs.YtgokenbojppnhaaDoor
open Go.RowKit
attribute [local go_sem ↓] Go.wp_at_zero Go.wp_at_succ
set_option maxHeartbeats 8000000 in
set_option maxRecDepth 100000 in
theorem does_lin_0 {B S : Nat} {w : World} {I O Z T P C H : Int} {ba' ia : Option Addr} {bn bc ic : Nat} {first : Bool} {nm : Bs}  (h : DoesAt B w S ⟨1, I, O, Z, T, P, C, H⟩ (.slice ba' bn bc) (.slice ia 0 ic) first nm []) :
    Calls Tryd.prog 67 #[.pointer (some ⟨S, 0, none⟩)] w fun e w' => DoesP B w S ⟨1, I, O, Z, T, P, C, H⟩ (.slice ba' bn bc) (.slice ia 0 ic) first nm e w' none := by
  obtain ⟨hblk, hrow, hlow, hdim, hname⟩ := h
  obtain ⟨d1, d2, d3, d4⟩ := fullS_dims hdim
  have zS := hblk.lt
  have k0 := (hblk.cell 0).trans (show (stepA ⟨1, I, O, Z, T, P, C, H⟩ (.slice ba' bn bc) (.slice ia 0 ic) (.slice none 0 0) (.slice none 0 0) first (ba nm) 0 false)[0]? = some (.int .i64 1) from rfl)
  have k1 := (hblk.cell 1).trans (show (stepA ⟨1, I, O, Z, T, P, C, H⟩ (.slice ba' bn bc) (.slice ia 0 ic) (.slice none 0 0) (.slice none 0 0) first (ba nm) 0 false)[1]? = some (.int .i64 I) from rfl)
  have k2 := (hblk.cell 2).trans (show (stepA ⟨1, I, O, Z, T, P, C, H⟩ (.slice ba' bn bc) (.slice ia 0 ic) (.slice none 0 0) (.slice none 0 0) first (ba nm) 0 false)[2]? = some (.int .i64 O) from rfl)
  have k3 := (hblk.cell 3).trans (show (stepA ⟨1, I, O, Z, T, P, C, H⟩ (.slice ba' bn bc) (.slice ia 0 ic) (.slice none 0 0) (.slice none 0 0) first (ba nm) 0 false)[3]? = some (.int .i64 Z) from rfl)
  have k4 := (hblk.cell 4).trans (show (stepA ⟨1, I, O, Z, T, P, C, H⟩ (.slice ba' bn bc) (.slice ia 0 ic) (.slice none 0 0) (.slice none 0 0) first (ba nm) 0 false)[4]? = some (.int .i64 T) from rfl)
  have k5 := (hblk.cell 5).trans (show (stepA ⟨1, I, O, Z, T, P, C, H⟩ (.slice ba' bn bc) (.slice ia 0 ic) (.slice none 0 0) (.slice none 0 0) first (ba nm) 0 false)[5]? = some (.int .i64 P) from rfl)
  have k6 := (hblk.cell 6).trans (show (stepA ⟨1, I, O, Z, T, P, C, H⟩ (.slice ba' bn bc) (.slice ia 0 ic) (.slice none 0 0) (.slice none 0 0) first (ba nm) 0 false)[6]? = some (.int .i64 C) from rfl)
  have k7 := (hblk.cell 7).trans (show (stepA ⟨1, I, O, Z, T, P, C, H⟩ (.slice ba' bn bc) (.slice ia 0 ic) (.slice none 0 0) (.slice none 0 0) first (ba nm) 0 false)[7]? = some (.int .i64 H) from rfl)
  have k8 := (hblk.cell 8).trans (show (stepA ⟨1, I, O, Z, T, P, C, H⟩ (.slice ba' bn bc) (.slice ia 0 ic) (.slice none 0 0) (.slice none 0 0) first (ba nm) 0 false)[8]? = some (.slice ba' bn bc) from rfl)
  have k9 := (hblk.cell 9).trans (show (stepA ⟨1, I, O, Z, T, P, C, H⟩ (.slice ba' bn bc) (.slice ia 0 ic) (.slice none 0 0) (.slice none 0 0) first (ba nm) 0 false)[9]? = some (.slice ia 0 ic) from rfl)
  have f10 := hblk.frozen 10
  have k10 := (hblk.cell 10).trans (show (stepA ⟨1, I, O, Z, T, P, C, H⟩ (.slice ba' bn bc) (.slice ia 0 ic) (.slice none 0 0) (.slice none 0 0) first (ba nm) 0 false)[10]? = some (.slice none 0 0) from rfl)
  have HBLK := Lib.hid hblk
  have HROW := Lib.hid hrow
  have HD := Lib.hid d2
  clear hblk hrow hdim d2
  go_enter Tryd.func67, Tryd.ntmps67
  go_wp2_with fail
  go_cut [3, 4] (fun s3 s4 W => s3 = .pointer (some ⟨w.heap.size, 0, none⟩) ∧ s4 = .int .i64 (-1) ∧ Blk W w.heap.size 52 #[.int .i64 (1), .int .i64 I, .int .i64 O, .int .i64 Z, .int .i64 T, .int .i64 P, .int .i64 C, .int .i64 H, .slice ba' bn bc] ∧ Ext w W)
  case first => as_aux_lemma =>
    go_region_held3 (fun w' => w'.cell? ⟨S, 0, none⟩ = some (.int .i64 1) ∧ w'.cell? ⟨S, 1, none⟩ = some (.int .i64 I) ∧ w'.cell? ⟨S, 2, none⟩ = some (.int .i64 O) ∧ w'.cell? ⟨S, 3, none⟩ = some (.int .i64 Z) ∧ w'.cell? ⟨S, 4, none⟩ = some (.int .i64 T) ∧ w'.cell? ⟨S, 5, none⟩ = some (.int .i64 P) ∧ w'.cell? ⟨S, 6, none⟩ = some (.int .i64 C) ∧ w'.cell? ⟨S, 7, none⟩ = some (.int .i64 H) ∧ w'.cell? ⟨S, 8, none⟩ = some (.slice ba' bn bc) ∧ w'.cell? ⟨S, 9, none⟩ = some (.slice ia 0 ic) ∧ S < w'.heap.size ∧ Ext w w')
      (refine ⟨?_, ?_, ?_, ?_, ?_, ?_, ?_, ?_, ?_, ?_, ?_, ?_⟩ <;> first | (simp [go_sem, *]; done) | omega | (simp at z1; omega) | (simp at z2; omega) | (simp at z3; omega) | (simp at z4; omega) | exact (by repeat (first | with_reducible exact Ext.refl _ | with_reducible apply Ext.drew | with_reducible apply Ext.drewN | with_reducible apply Ext.alloc | ((with_reducible refine Ext.setCell ?_ ?_ _); rotate_left; focus (first | (simp; done) | (simp; omega) | omega)) | with_reducible refine Ext.tr ?_ xc | with_reducible assumption)))
      (fail)
    all_goals
      go_wp2_with fail
      go_meet
      exact ⟨rfl, rfl, (Blk.new _ _ _).drew, (by repeat (first | with_reducible exact Ext.refl _ | with_reducible apply Ext.drew | with_reducible apply Ext.drewN | with_reducible apply Ext.alloc | ((with_reducible refine Ext.setCell ?_ ?_ _); rotate_left; focus (first | (simp; done) | (simp; omega) | omega)) | with_reducible refine Ext.tr ?_ xc | with_reducible assumption))⟩
  obtain ⟨rfl, rfl, bl, xc⟩ := hcut
  have j9 := xc.cell k9
  have j10 := xc.cell k10
  have g10 := (HBLK.out.ext xc).frozen 10
  have l0 := (bl.cell 0).trans (show (#[.int .i64 (1), .int .i64 I, .int .i64 O, .int .i64 Z, .int .i64 T, .int .i64 P, .int .i64 C, .int .i64 H, .slice ba' bn bc] : Array Value)[0]? = some (.int .i64 (1)) from rfl)
  have l1 := (bl.cell 1).trans (show (#[.int .i64 (1), .int .i64 I, .int .i64 O, .int .i64 Z, .int .i64 T, .int .i64 P, .int .i64 C, .int .i64 H, .slice ba' bn bc] : Array Value)[1]? = some (.int .i64 I) from rfl)
  have l2 := (bl.cell 2).trans (show (#[.int .i64 (1), .int .i64 I, .int .i64 O, .int .i64 Z, .int .i64 T, .int .i64 P, .int .i64 C, .int .i64 H, .slice ba' bn bc] : Array Value)[2]? = some (.int .i64 O) from rfl)
  have zc : w.heap.size < wc.heap.size := bl.lt
  have zSc : S < wc.heap.size := by omega
  have BL := Lib.hid bl
  have XC := Lib.hid xc
  have HB := Lib.hid (HBLK.out.ext xc)
  have HR := Lib.hid (HROW.out.ext xc)
  have GX := Lib.hid ((GB.refl w S).ext xc)
  clear k0 k1 k2 k3 k4 k5 k6 k7 k8 k9 f10 k10 bl xc HROW
  go_wp2_with fail
  go_quiet (fail)
  go_wp2
  go_ret
  exact ⟨rfl, GX.out.ext (by repeat (first | with_reducible exact Ext.refl _ | with_reducible apply Ext.drew | with_reducible apply Ext.drewN | with_reducible apply Ext.alloc | ((with_reducible refine Ext.setCell ?_ ?_ _); rotate_left; focus (first | (simp; done) | (simp; omega) | omega)) | with_reducible refine Ext.tr ?_ xc | with_reducible assumption)), HB.out.ext (by repeat (first | with_reducible exact Ext.refl _ | with_reducible apply Ext.drew | with_reducible apply Ext.drewN | with_reducible apply Ext.alloc | ((with_reducible refine Ext.setCell ?_ ?_ _); rotate_left; focus (first | (simp; done) | (simp; omega) | omega)) | with_reducible refine Ext.tr ?_ xc | with_reducible assumption))⟩
set_option maxHeartbeats 8000000 in
set_option maxRecDepth 100000 in
theorem does_lin_1n {B S : Nat} {w : World} {I O Z T P C H : Int} {ba' ia : Option Addr} {bn bc ic : Nat} {first : Bool} {nm : Bs} {a : Int} (h : DoesAt B w S ⟨1, I, O, Z, T, P, C, H⟩ (.slice ba' bn bc) (.slice ia 1 ic) first nm [a]) (hne : a ≠ I) :
    Calls Tryd.prog 67 #[.pointer (some ⟨S, 0, none⟩)] w fun e w' => DoesP B w S ⟨1, I, O, Z, T, P, C, H⟩ (.slice ba' bn bc) (.slice ia 1 ic) first nm e w' none := by
  obtain ⟨hblk, hrow, hlow, hdim, hname⟩ := h
  obtain ⟨d1, d2, d3, d4⟩ := fullS_dims hdim
  have zS := hblk.lt
  have k0 := (hblk.cell 0).trans (show (stepA ⟨1, I, O, Z, T, P, C, H⟩ (.slice ba' bn bc) (.slice ia 1 ic) (.slice none 0 0) (.slice none 0 0) first (ba nm) 0 false)[0]? = some (.int .i64 1) from rfl)
  have k1 := (hblk.cell 1).trans (show (stepA ⟨1, I, O, Z, T, P, C, H⟩ (.slice ba' bn bc) (.slice ia 1 ic) (.slice none 0 0) (.slice none 0 0) first (ba nm) 0 false)[1]? = some (.int .i64 I) from rfl)
  have k2 := (hblk.cell 2).trans (show (stepA ⟨1, I, O, Z, T, P, C, H⟩ (.slice ba' bn bc) (.slice ia 1 ic) (.slice none 0 0) (.slice none 0 0) first (ba nm) 0 false)[2]? = some (.int .i64 O) from rfl)
  have k3 := (hblk.cell 3).trans (show (stepA ⟨1, I, O, Z, T, P, C, H⟩ (.slice ba' bn bc) (.slice ia 1 ic) (.slice none 0 0) (.slice none 0 0) first (ba nm) 0 false)[3]? = some (.int .i64 Z) from rfl)
  have k4 := (hblk.cell 4).trans (show (stepA ⟨1, I, O, Z, T, P, C, H⟩ (.slice ba' bn bc) (.slice ia 1 ic) (.slice none 0 0) (.slice none 0 0) first (ba nm) 0 false)[4]? = some (.int .i64 T) from rfl)
  have k5 := (hblk.cell 5).trans (show (stepA ⟨1, I, O, Z, T, P, C, H⟩ (.slice ba' bn bc) (.slice ia 1 ic) (.slice none 0 0) (.slice none 0 0) first (ba nm) 0 false)[5]? = some (.int .i64 P) from rfl)
  have k6 := (hblk.cell 6).trans (show (stepA ⟨1, I, O, Z, T, P, C, H⟩ (.slice ba' bn bc) (.slice ia 1 ic) (.slice none 0 0) (.slice none 0 0) first (ba nm) 0 false)[6]? = some (.int .i64 C) from rfl)
  have k7 := (hblk.cell 7).trans (show (stepA ⟨1, I, O, Z, T, P, C, H⟩ (.slice ba' bn bc) (.slice ia 1 ic) (.slice none 0 0) (.slice none 0 0) first (ba nm) 0 false)[7]? = some (.int .i64 H) from rfl)
  have k8 := (hblk.cell 8).trans (show (stepA ⟨1, I, O, Z, T, P, C, H⟩ (.slice ba' bn bc) (.slice ia 1 ic) (.slice none 0 0) (.slice none 0 0) first (ba nm) 0 false)[8]? = some (.slice ba' bn bc) from rfl)
  have k9 := (hblk.cell 9).trans (show (stepA ⟨1, I, O, Z, T, P, C, H⟩ (.slice ba' bn bc) (.slice ia 1 ic) (.slice none 0 0) (.slice none 0 0) first (ba nm) 0 false)[9]? = some (.slice ia 1 ic) from rfl)
  have f10 := hblk.frozen 10
  have k10 := (hblk.cell 10).trans (show (stepA ⟨1, I, O, Z, T, P, C, H⟩ (.slice ba' bn bc) (.slice ia 1 ic) (.slice none 0 0) (.slice none 0 0) first (ba nm) 0 false)[10]? = some (.slice none 0 0) from rfl)
  have HBLK := Lib.hid hblk
  have HROW := Lib.hid hrow
  have HD := Lib.hid d2
  have tn : (a != I) = true := by simpa using hne
  clear hne
  clear hblk hrow hdim d2
  go_enter Tryd.func67, Tryd.ntmps67
  go_wp2_with fail
  go_cut [3, 4] (fun s3 s4 W => s3 = .pointer (some ⟨w.heap.size, 0, none⟩) ∧ s4 = .int .i64 (0) ∧ Blk W w.heap.size 52 #[.int .i64 (1), .int .i64 I, .int .i64 O, .int .i64 Z, .int .i64 T, .int .i64 P, .int .i64 C, .int .i64 H, .slice ba' bn bc] ∧ Ext w W)
  case first => as_aux_lemma =>
    go_region_held3 (fun w' => w'.cell? ⟨S, 0, none⟩ = some (.int .i64 1) ∧ w'.cell? ⟨S, 1, none⟩ = some (.int .i64 I) ∧ w'.cell? ⟨S, 2, none⟩ = some (.int .i64 O) ∧ w'.cell? ⟨S, 3, none⟩ = some (.int .i64 Z) ∧ w'.cell? ⟨S, 4, none⟩ = some (.int .i64 T) ∧ w'.cell? ⟨S, 5, none⟩ = some (.int .i64 P) ∧ w'.cell? ⟨S, 6, none⟩ = some (.int .i64 C) ∧ w'.cell? ⟨S, 7, none⟩ = some (.int .i64 H) ∧ w'.cell? ⟨S, 8, none⟩ = some (.slice ba' bn bc) ∧ w'.cell? ⟨S, 9, none⟩ = some (.slice ia 1 ic) ∧ S < w'.heap.size ∧ Ext w w')
      (refine ⟨?_, ?_, ?_, ?_, ?_, ?_, ?_, ?_, ?_, ?_, ?_, ?_⟩ <;> first | (simp [go_sem, *]; done) | omega | (simp at z1; omega) | (simp at z2; omega) | (simp at z3; omega) | (simp at z4; omega) | exact (by repeat (first | with_reducible exact Ext.refl _ | with_reducible apply Ext.drew | with_reducible apply Ext.drewN | with_reducible apply Ext.alloc | ((with_reducible refine Ext.setCell ?_ ?_ _); rotate_left; focus (first | (simp; done) | (simp; omega) | omega)) | with_reducible refine Ext.tr ?_ xc | with_reducible assumption)))
      (fail)
    all_goals
      go_wp2_with fail
      go_meet
      exact ⟨rfl, rfl, (Blk.new _ _ _).drew, (by repeat (first | with_reducible exact Ext.refl _ | with_reducible apply Ext.drew | with_reducible apply Ext.drewN | with_reducible apply Ext.alloc | ((with_reducible refine Ext.setCell ?_ ?_ _); rotate_left; focus (first | (simp; done) | (simp; omega) | omega)) | with_reducible refine Ext.tr ?_ xc | with_reducible assumption))⟩
  obtain ⟨rfl, rfl, bl, xc⟩ := hcut
  have j9 := xc.cell k9
  have j10 := xc.cell k10
  have g10 := (HBLK.out.ext xc).frozen 10
  have l0 := (bl.cell 0).trans (show (#[.int .i64 (1), .int .i64 I, .int .i64 O, .int .i64 Z, .int .i64 T, .int .i64 P, .int .i64 C, .int .i64 H, .slice ba' bn bc] : Array Value)[0]? = some (.int .i64 (1)) from rfl)
  have l1 := (bl.cell 1).trans (show (#[.int .i64 (1), .int .i64 I, .int .i64 O, .int .i64 Z, .int .i64 T, .int .i64 P, .int .i64 C, .int .i64 H, .slice ba' bn bc] : Array Value)[1]? = some (.int .i64 I) from rfl)
  have l2 := (bl.cell 2).trans (show (#[.int .i64 (1), .int .i64 I, .int .i64 O, .int .i64 Z, .int .i64 T, .int .i64 P, .int .i64 C, .int .i64 H, .slice ba' bn bc] : Array Value)[2]? = some (.int .i64 O) from rfl)
  have zc : w.heap.size < wc.heap.size := bl.lt
  have zSc : S < wc.heap.size := by omega
  have BL := Lib.hid bl
  have XC := Lib.hid xc
  have HB := Lib.hid (HBLK.out.ext xc)
  have HR := Lib.hid (HROW.out.ext xc)
  have GX := Lib.hid ((GB.refl w S).ext xc)
  clear k0 k1 k2 k3 k4 k5 k6 k7 k8 k9 f10 k10 bl xc HROW
  obtain ⟨b, o, rfl, ci⟩ := row_cell HR.out.1 (show 0 < 1 by omega)
  simp only [Nat.add_zero, List.getD_cons_zero] at ci
  go_wp2_with fail
  go_quiet (fail)
  go_wp2
  go_ret
  exact ⟨rfl, GX.out.ext (by repeat (first | with_reducible exact Ext.refl _ | with_reducible apply Ext.drew | with_reducible apply Ext.drewN | with_reducible apply Ext.alloc | ((with_reducible refine Ext.setCell ?_ ?_ _); rotate_left; focus (first | (simp; done) | (simp; omega) | omega)) | with_reducible refine Ext.tr ?_ xc | with_reducible assumption)), HB.out.ext (by repeat (first | with_reducible exact Ext.refl _ | with_reducible apply Ext.drew | with_reducible apply Ext.drewN | with_reducible apply Ext.alloc | ((with_reducible refine Ext.setCell ?_ ?_ _); rotate_left; focus (first | (simp; done) | (simp; omega) | omega)) | with_reducible refine Ext.tr ?_ xc | with_reducible assumption))⟩
set_option maxHeartbeats 8000000 in
set_option maxRecDepth 100000 in
theorem does_lin_2n {B S : Nat} {w : World} {I O Z T P C H : Int} {ba' ia : Option Addr} {bn bc ic : Nat} {first : Bool} {nm : Bs} {a a2 : Int} (h : DoesAt B w S ⟨1, I, O, Z, T, P, C, H⟩ (.slice ba' bn bc) (.slice ia 2 ic) first nm [a, a2]) (hne : a2 ≠ I) :
    Calls Tryd.prog 67 #[.pointer (some ⟨S, 0, none⟩)] w fun e w' => DoesP B w S ⟨1, I, O, Z, T, P, C, H⟩ (.slice ba' bn bc) (.slice ia 2 ic) first nm e w' none := by
  obtain ⟨hblk, hrow, hlow, hdim, hname⟩ := h
  obtain ⟨d1, d2, d3, d4⟩ := fullS_dims hdim
  have zS := hblk.lt
  have k0 := (hblk.cell 0).trans (show (stepA ⟨1, I, O, Z, T, P, C, H⟩ (.slice ba' bn bc) (.slice ia 2 ic) (.slice none 0 0) (.slice none 0 0) first (ba nm) 0 false)[0]? = some (.int .i64 1) from rfl)
  have k1 := (hblk.cell 1).trans (show (stepA ⟨1, I, O, Z, T, P, C, H⟩ (.slice ba' bn bc) (.slice ia 2 ic) (.slice none 0 0) (.slice none 0 0) first (ba nm) 0 false)[1]? = some (.int .i64 I) from rfl)
  have k2 := (hblk.cell 2).trans (show (stepA ⟨1, I, O, Z, T, P, C, H⟩ (.slice ba' bn bc) (.slice ia 2 ic) (.slice none 0 0) (.slice none 0 0) first (ba nm) 0 false)[2]? = some (.int .i64 O) from rfl)
  have k3 := (hblk.cell 3).trans (show (stepA ⟨1, I, O, Z, T, P, C, H⟩ (.slice ba' bn bc) (.slice ia 2 ic) (.slice none 0 0) (.slice none 0 0) first (ba nm) 0 false)[3]? = some (.int .i64 Z) from rfl)
  have k4 := (hblk.cell 4).trans (show (stepA ⟨1, I, O, Z, T, P, C, H⟩ (.slice ba' bn bc) (.slice ia 2 ic) (.slice none 0 0) (.slice none 0 0) first (ba nm) 0 false)[4]? = some (.int .i64 T) from rfl)
  have k5 := (hblk.cell 5).trans (show (stepA ⟨1, I, O, Z, T, P, C, H⟩ (.slice ba' bn bc) (.slice ia 2 ic) (.slice none 0 0) (.slice none 0 0) first (ba nm) 0 false)[5]? = some (.int .i64 P) from rfl)
  have k6 := (hblk.cell 6).trans (show (stepA ⟨1, I, O, Z, T, P, C, H⟩ (.slice ba' bn bc) (.slice ia 2 ic) (.slice none 0 0) (.slice none 0 0) first (ba nm) 0 false)[6]? = some (.int .i64 C) from rfl)
  have k7 := (hblk.cell 7).trans (show (stepA ⟨1, I, O, Z, T, P, C, H⟩ (.slice ba' bn bc) (.slice ia 2 ic) (.slice none 0 0) (.slice none 0 0) first (ba nm) 0 false)[7]? = some (.int .i64 H) from rfl)
  have k8 := (hblk.cell 8).trans (show (stepA ⟨1, I, O, Z, T, P, C, H⟩ (.slice ba' bn bc) (.slice ia 2 ic) (.slice none 0 0) (.slice none 0 0) first (ba nm) 0 false)[8]? = some (.slice ba' bn bc) from rfl)
  have k9 := (hblk.cell 9).trans (show (stepA ⟨1, I, O, Z, T, P, C, H⟩ (.slice ba' bn bc) (.slice ia 2 ic) (.slice none 0 0) (.slice none 0 0) first (ba nm) 0 false)[9]? = some (.slice ia 2 ic) from rfl)
  have f10 := hblk.frozen 10
  have k10 := (hblk.cell 10).trans (show (stepA ⟨1, I, O, Z, T, P, C, H⟩ (.slice ba' bn bc) (.slice ia 2 ic) (.slice none 0 0) (.slice none 0 0) first (ba nm) 0 false)[10]? = some (.slice none 0 0) from rfl)
  have HBLK := Lib.hid hblk
  have HROW := Lib.hid hrow
  have HD := Lib.hid d2
  have tn : (a2 != I) = true := by simpa using hne
  clear hne
  clear hblk hrow hdim d2
  go_enter Tryd.func67, Tryd.ntmps67
  go_wp2_with fail
  go_cut [3, 4] (fun s3 s4 W => s3 = .pointer (some ⟨w.heap.size, 0, none⟩) ∧ s4 = .int .i64 (1) ∧ Blk W w.heap.size 52 #[.int .i64 (1), .int .i64 I, .int .i64 O, .int .i64 Z, .int .i64 T, .int .i64 P, .int .i64 C, .int .i64 H, .slice ba' bn bc] ∧ Ext w W)
  case first => as_aux_lemma =>
    go_region_held3 (fun w' => w'.cell? ⟨S, 0, none⟩ = some (.int .i64 1) ∧ w'.cell? ⟨S, 1, none⟩ = some (.int .i64 I) ∧ w'.cell? ⟨S, 2, none⟩ = some (.int .i64 O) ∧ w'.cell? ⟨S, 3, none⟩ = some (.int .i64 Z) ∧ w'.cell? ⟨S, 4, none⟩ = some (.int .i64 T) ∧ w'.cell? ⟨S, 5, none⟩ = some (.int .i64 P) ∧ w'.cell? ⟨S, 6, none⟩ = some (.int .i64 C) ∧ w'.cell? ⟨S, 7, none⟩ = some (.int .i64 H) ∧ w'.cell? ⟨S, 8, none⟩ = some (.slice ba' bn bc) ∧ w'.cell? ⟨S, 9, none⟩ = some (.slice ia 2 ic) ∧ S < w'.heap.size ∧ Ext w w')
      (refine ⟨?_, ?_, ?_, ?_, ?_, ?_, ?_, ?_, ?_, ?_, ?_, ?_⟩ <;> first | (simp [go_sem, *]; done) | omega | (simp at z1; omega) | (simp at z2; omega) | (simp at z3; omega) | (simp at z4; omega) | exact (by repeat (first | with_reducible exact Ext.refl _ | with_reducible apply Ext.drew | with_reducible apply Ext.drewN | with_reducible apply Ext.alloc | ((with_reducible refine Ext.setCell ?_ ?_ _); rotate_left; focus (first | (simp; done) | (simp; omega) | omega)) | with_reducible refine Ext.tr ?_ xc | with_reducible assumption)))
      (fail)
    all_goals
      go_wp2_with fail
      go_meet
      exact ⟨rfl, rfl, (Blk.new _ _ _).drew, (by repeat (first | with_reducible exact Ext.refl _ | with_reducible apply Ext.drew | with_reducible apply Ext.drewN | with_reducible apply Ext.alloc | ((with_reducible refine Ext.setCell ?_ ?_ _); rotate_left; focus (first | (simp; done) | (simp; omega) | omega)) | with_reducible refine Ext.tr ?_ xc | with_reducible assumption))⟩
  obtain ⟨rfl, rfl, bl, xc⟩ := hcut
  have j9 := xc.cell k9
  have j10 := xc.cell k10
  have g10 := (HBLK.out.ext xc).frozen 10
  have l0 := (bl.cell 0).trans (show (#[.int .i64 (1), .int .i64 I, .int .i64 O, .int .i64 Z, .int .i64 T, .int .i64 P, .int .i64 C, .int .i64 H, .slice ba' bn bc] : Array Value)[0]? = some (.int .i64 (1)) from rfl)
  have l1 := (bl.cell 1).trans (show (#[.int .i64 (1), .int .i64 I, .int .i64 O, .int .i64 Z, .int .i64 T, .int .i64 P, .int .i64 C, .int .i64 H, .slice ba' bn bc] : Array Value)[1]? = some (.int .i64 I) from rfl)
  have l2 := (bl.cell 2).trans (show (#[.int .i64 (1), .int .i64 I, .int .i64 O, .int .i64 Z, .int .i64 T, .int .i64 P, .int .i64 C, .int .i64 H, .slice ba' bn bc] : Array Value)[2]? = some (.int .i64 O) from rfl)
  have zc : w.heap.size < wc.heap.size := bl.lt
  have zSc : S < wc.heap.size := by omega
  have BL := Lib.hid bl
  have XC := Lib.hid xc
  have HB := Lib.hid (HBLK.out.ext xc)
  have HR := Lib.hid (HROW.out.ext xc)
  have GX := Lib.hid ((GB.refl w S).ext xc)
  clear k0 k1 k2 k3 k4 k5 k6 k7 k8 k9 f10 k10 bl xc HROW
  obtain ⟨b, o, rfl, ci⟩ := row_cell HR.out.1 (show 1 < 2 by omega)
  simp only [List.getD_cons_succ, List.getD_cons_zero] at ci
  go_wp2_with fail
  go_quiet (fail)
  go_wp2
  go_ret
  exact ⟨rfl, GX.out.ext (by repeat (first | with_reducible exact Ext.refl _ | with_reducible apply Ext.drew | with_reducible apply Ext.drewN | with_reducible apply Ext.alloc | ((with_reducible refine Ext.setCell ?_ ?_ _); rotate_left; focus (first | (simp; done) | (simp; omega) | omega)) | with_reducible refine Ext.tr ?_ xc | with_reducible assumption)), HB.out.ext (by repeat (first | with_reducible exact Ext.refl _ | with_reducible apply Ext.drew | with_reducible apply Ext.drewN | with_reducible apply Ext.alloc | ((with_reducible refine Ext.setCell ?_ ?_ _); rotate_left; focus (first | (simp; done) | (simp; omega) | omega)) | with_reducible refine Ext.tr ?_ xc | with_reducible assumption))⟩
set_option maxHeartbeats 8000000 in
set_option maxRecDepth 100000 in
theorem does_lin_3 {B S : Nat} {w : World} {I O Z T P C H : Int} {ba' ia : Option Addr} {bn bc ic : Nat} {first : Bool} {nm : Bs} {a a2 a3 : Int} (h : DoesAt B w S ⟨1, I, O, Z, T, P, C, H⟩ (.slice ba' bn bc) (.slice ia 3 ic) first nm [a, a2, a3]) :
    Calls Tryd.prog 67 #[.pointer (some ⟨S, 0, none⟩)] w fun e w' => DoesP B w S ⟨1, I, O, Z, T, P, C, H⟩ (.slice ba' bn bc) (.slice ia 3 ic) first nm e w' none := by
  obtain ⟨hblk, hrow, hlow, hdim, hname⟩ := h
  obtain ⟨d1, d2, d3, d4⟩ := fullS_dims hdim
  have zS := hblk.lt
  have k0 := (hblk.cell 0).trans (show (stepA ⟨1, I, O, Z, T, P, C, H⟩ (.slice ba' bn bc) (.slice ia 3 ic) (.slice none 0 0) (.slice none 0 0) first (ba nm) 0 false)[0]? = some (.int .i64 1) from rfl)
  have k1 := (hblk.cell 1).trans (show (stepA ⟨1, I, O, Z, T, P, C, H⟩ (.slice ba' bn bc) (.slice ia 3 ic) (.slice none 0 0) (.slice none 0 0) first (ba nm) 0 false)[1]? = some (.int .i64 I) from rfl)
  have k2 := (hblk.cell 2).trans (show (stepA ⟨1, I, O, Z, T, P, C, H⟩ (.slice ba' bn bc) (.slice ia 3 ic) (.slice none 0 0) (.slice none 0 0) first (ba nm) 0 false)[2]? = some (.int .i64 O) from rfl)
  have k3 := (hblk.cell 3).trans (show (stepA ⟨1, I, O, Z, T, P, C, H⟩ (.slice ba' bn bc) (.slice ia 3 ic) (.slice none 0 0) (.slice none 0 0) first (ba nm) 0 false)[3]? = some (.int .i64 Z) from rfl)
  have k4 := (hblk.cell 4).trans (show (stepA ⟨1, I, O, Z, T, P, C, H⟩ (.slice ba' bn bc) (.slice ia 3 ic) (.slice none 0 0) (.slice none 0 0) first (ba nm) 0 false)[4]? = some (.int .i64 T) from rfl)
  have k5 := (hblk.cell 5).trans (show (stepA ⟨1, I, O, Z, T, P, C, H⟩ (.slice ba' bn bc) (.slice ia 3 ic) (.slice none 0 0) (.slice none 0 0) first (ba nm) 0 false)[5]? = some (.int .i64 P) from rfl)
  have k6 := (hblk.cell 6).trans (show (stepA ⟨1, I, O, Z, T, P, C, H⟩ (.slice ba' bn bc) (.slice ia 3 ic) (.slice none 0 0) (.slice none 0 0) first (ba nm) 0 false)[6]? = some (.int .i64 C) from rfl)
  have k7 := (hblk.cell 7).trans (show (stepA ⟨1, I, O, Z, T, P, C, H⟩ (.slice ba' bn bc) (.slice ia 3 ic) (.slice none 0 0) (.slice none 0 0) first (ba nm) 0 false)[7]? = some (.int .i64 H) from rfl)
  have k8 := (hblk.cell 8).trans (show (stepA ⟨1, I, O, Z, T, P, C, H⟩ (.slice ba' bn bc) (.slice ia 3 ic) (.slice none 0 0) (.slice none 0 0) first (ba nm) 0 false)[8]? = some (.slice ba' bn bc) from rfl)
  have k9 := (hblk.cell 9).trans (show (stepA ⟨1, I, O, Z, T, P, C, H⟩ (.slice ba' bn bc) (.slice ia 3 ic) (.slice none 0 0) (.slice none 0 0) first (ba nm) 0 false)[9]? = some (.slice ia 3 ic) from rfl)
  have f10 := hblk.frozen 10
  have k10 := (hblk.cell 10).trans (show (stepA ⟨1, I, O, Z, T, P, C, H⟩ (.slice ba' bn bc) (.slice ia 3 ic) (.slice none 0 0) (.slice none 0 0) first (ba nm) 0 false)[10]? = some (.slice none 0 0) from rfl)
  have HBLK := Lib.hid hblk
  have HROW := Lib.hid hrow
  have HD := Lib.hid d2
  clear hblk hrow hdim d2
  go_enter Tryd.func67, Tryd.ntmps67
  go_wp2_with fail
  go_cut [3, 4] (fun s3 s4 W => s3 = .pointer (some ⟨w.heap.size, 0, none⟩) ∧ s4 = .int .i64 (2) ∧ Blk W w.heap.size 52 #[.int .i64 (1), .int .i64 I, .int .i64 O, .int .i64 Z, .int .i64 T, .int .i64 P, .int .i64 C, .int .i64 H, .slice ba' bn bc] ∧ Ext w W)
  case first => as_aux_lemma =>
    go_region_held3 (fun w' => w'.cell? ⟨S, 0, none⟩ = some (.int .i64 1) ∧ w'.cell? ⟨S, 1, none⟩ = some (.int .i64 I) ∧ w'.cell? ⟨S, 2, none⟩ = some (.int .i64 O) ∧ w'.cell? ⟨S, 3, none⟩ = some (.int .i64 Z) ∧ w'.cell? ⟨S, 4, none⟩ = some (.int .i64 T) ∧ w'.cell? ⟨S, 5, none⟩ = some (.int .i64 P) ∧ w'.cell? ⟨S, 6, none⟩ = some (.int .i64 C) ∧ w'.cell? ⟨S, 7, none⟩ = some (.int .i64 H) ∧ w'.cell? ⟨S, 8, none⟩ = some (.slice ba' bn bc) ∧ w'.cell? ⟨S, 9, none⟩ = some (.slice ia 3 ic) ∧ S < w'.heap.size ∧ Ext w w')
      (refine ⟨?_, ?_, ?_, ?_, ?_, ?_, ?_, ?_, ?_, ?_, ?_, ?_⟩ <;> first | (simp [go_sem, *]; done) | omega | (simp at z1; omega) | (simp at z2; omega) | (simp at z3; omega) | (simp at z4; omega) | exact (by repeat (first | with_reducible exact Ext.refl _ | with_reducible apply Ext.drew | with_reducible apply Ext.drewN | with_reducible apply Ext.alloc | ((with_reducible refine Ext.setCell ?_ ?_ _); rotate_left; focus (first | (simp; done) | (simp; omega) | omega)) | with_reducible refine Ext.tr ?_ xc | with_reducible assumption)))
      (fail)
    all_goals
      go_wp2_with fail
      go_meet
      exact ⟨rfl, rfl, (Blk.new _ _ _).drew, (by repeat (first | with_reducible exact Ext.refl _ | with_reducible apply Ext.drew | with_reducible apply Ext.drewN | with_reducible apply Ext.alloc | ((with_reducible refine Ext.setCell ?_ ?_ _); rotate_left; focus (first | (simp; done) | (simp; omega) | omega)) | with_reducible refine Ext.tr ?_ xc | with_reducible assumption))⟩
  obtain ⟨rfl, rfl, bl, xc⟩ := hcut
  have j9 := xc.cell k9
  have j10 := xc.cell k10
  have g10 := (HBLK.out.ext xc).frozen 10
  have l0 := (bl.cell 0).trans (show (#[.int .i64 (1), .int .i64 I, .int .i64 O, .int .i64 Z, .int .i64 T, .int .i64 P, .int .i64 C, .int .i64 H, .slice ba' bn bc] : Array Value)[0]? = some (.int .i64 (1)) from rfl)
  have l1 := (bl.cell 1).trans (show (#[.int .i64 (1), .int .i64 I, .int .i64 O, .int .i64 Z, .int .i64 T, .int .i64 P, .int .i64 C, .int .i64 H, .slice ba' bn bc] : Array Value)[1]? = some (.int .i64 I) from rfl)
  have l2 := (bl.cell 2).trans (show (#[.int .i64 (1), .int .i64 I, .int .i64 O, .int .i64 Z, .int .i64 T, .int .i64 P, .int .i64 C, .int .i64 H, .slice ba' bn bc] : Array Value)[2]? = some (.int .i64 O) from rfl)
  have zc : w.heap.size < wc.heap.size := bl.lt
  have zSc : S < wc.heap.size := by omega
  have BL := Lib.hid bl
  have XC := Lib.hid xc
  have HB := Lib.hid (HBLK.out.ext xc)
  have HR := Lib.hid (HROW.out.ext xc)
  have GX := Lib.hid ((GB.refl w S).ext xc)
  clear k0 k1 k2 k3 k4 k5 k6 k7 k8 k9 f10 k10 bl xc HROW
  go_wp2_with fail
  go_quiet (fail)
  go_wp2
  go_ret
  exact ⟨rfl, GX.out.ext (by repeat (first | with_reducible exact Ext.refl _ | with_reducible apply Ext.drew | with_reducible apply Ext.drewN | with_reducible apply Ext.alloc | ((with_reducible refine Ext.setCell ?_ ?_ _); rotate_left; focus (first | (simp; done) | (simp; omega) | omega)) | with_reducible refine Ext.tr ?_ xc | with_reducible assumption)), HB.out.ext (by repeat (first | with_reducible exact Ext.refl _ | with_reducible apply Ext.drew | with_reducible apply Ext.drewN | with_reducible apply Ext.alloc | ((with_reducible refine Ext.setCell ?_ ?_ _); rotate_left; focus (first | (simp; done) | (simp; omega) | omega)) | with_reducible refine Ext.tr ?_ xc | with_reducible assumption))⟩
end Go.Proofs.YtgokenbojppnhaaDoor
