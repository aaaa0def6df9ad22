/- (*infer.step).does: an attention. -/
import Derived.Test.YtgokenbojppnhaaDoorInfDoes0
import Derived.LoopN
namespace Go.Proofs.YtgokenbojppnhaaDoor
open Go.RowKit
attribute [local go_sem ↓] Go.wp_at_zero Go.wp_at_succ
set_option maxHeartbeats 8000000 in
set_option maxRecDepth 100000 in
theorem does_att_l {B S : Nat} {w : World} {I O Z T P C H : Int} {ba' ia : Option Addr} {bn bc ic : Nat} {first : Bool} {nm : Bs} {s : List Int} (h : DoesAt B w S ⟨12, I, O, Z, T, P, C, H⟩ (.slice ba' bn bc) (.slice ia s.length ic) first nm s) (hn : s.length ≠ 2) :
    Calls Tryd.prog 67 #[.pointer (some ⟨S, 0, none⟩)] w fun e w' => DoesP B w S ⟨12, I, O, Z, T, P, C, H⟩ (.slice ba' bn bc) (.slice ia s.length ic) first nm e w' none := by
  obtain ⟨hblk, hrow, hlow, hdim, hname⟩ := h
  obtain ⟨d1, d2, d3, d4⟩ := fullS_dims hdim
  have zS := hblk.lt
  have k0 := (hblk.cell 0).trans (show (stepA ⟨12, I, O, Z, T, P, C, H⟩ (.slice ba' bn bc) (.slice ia s.length ic) (.slice none 0 0) (.slice none 0 0) first (ba nm) 0 false)[0]? = some (.int .i64 12) from rfl)
  have k1 := (hblk.cell 1).trans (show (stepA ⟨12, I, O, Z, T, P, C, H⟩ (.slice ba' bn bc) (.slice ia s.length ic) (.slice none 0 0) (.slice none 0 0) first (ba nm) 0 false)[1]? = some (.int .i64 I) from rfl)
  have k2 := (hblk.cell 2).trans (show (stepA ⟨12, I, O, Z, T, P, C, H⟩ (.slice ba' bn bc) (.slice ia s.length ic) (.slice none 0 0) (.slice none 0 0) first (ba nm) 0 false)[2]? = some (.int .i64 O) from rfl)
  have k3 := (hblk.cell 3).trans (show (stepA ⟨12, I, O, Z, T, P, C, H⟩ (.slice ba' bn bc) (.slice ia s.length ic) (.slice none 0 0) (.slice none 0 0) first (ba nm) 0 false)[3]? = some (.int .i64 Z) from rfl)
  have k4 := (hblk.cell 4).trans (show (stepA ⟨12, I, O, Z, T, P, C, H⟩ (.slice ba' bn bc) (.slice ia s.length ic) (.slice none 0 0) (.slice none 0 0) first (ba nm) 0 false)[4]? = some (.int .i64 T) from rfl)
  have k5 := (hblk.cell 5).trans (show (stepA ⟨12, I, O, Z, T, P, C, H⟩ (.slice ba' bn bc) (.slice ia s.length ic) (.slice none 0 0) (.slice none 0 0) first (ba nm) 0 false)[5]? = some (.int .i64 P) from rfl)
  have k6 := (hblk.cell 6).trans (show (stepA ⟨12, I, O, Z, T, P, C, H⟩ (.slice ba' bn bc) (.slice ia s.length ic) (.slice none 0 0) (.slice none 0 0) first (ba nm) 0 false)[6]? = some (.int .i64 C) from rfl)
  have k7 := (hblk.cell 7).trans (show (stepA ⟨12, I, O, Z, T, P, C, H⟩ (.slice ba' bn bc) (.slice ia s.length ic) (.slice none 0 0) (.slice none 0 0) first (ba nm) 0 false)[7]? = some (.int .i64 H) from rfl)
  have k8 := (hblk.cell 8).trans (show (stepA ⟨12, I, O, Z, T, P, C, H⟩ (.slice ba' bn bc) (.slice ia s.length ic) (.slice none 0 0) (.slice none 0 0) first (ba nm) 0 false)[8]? = some (.slice ba' bn bc) from rfl)
  have k9 := (hblk.cell 9).trans (show (stepA ⟨12, I, O, Z, T, P, C, H⟩ (.slice ba' bn bc) (.slice ia s.length ic) (.slice none 0 0) (.slice none 0 0) first (ba nm) 0 false)[9]? = some (.slice ia s.length ic) from rfl)
  have f10 := hblk.frozen 10
  have k10 := (hblk.cell 10).trans (show (stepA ⟨12, I, O, Z, T, P, C, H⟩ (.slice ba' bn bc) (.slice ia s.length ic) (.slice none 0 0) (.slice none 0 0) first (ba nm) 0 false)[10]? = some (.slice none 0 0) from rfl)
  have HBLK := Lib.hid hblk
  have HROW := Lib.hid hrow
  have HD := Lib.hid d2
  have tn : ((s.length : Int) != 2) = true := by simp; omega
  clear hn
  clear hblk hrow hdim d2
  go_enter Tryd.func67, Tryd.ntmps67
  go_wp2_with fail
  go_cut [3, 4] (fun s3 s4 W => s3 = .pointer (some ⟨w.heap.size, 0, none⟩) ∧ s4 = .int .i64 (IntKind.i64.wrap ((s.length : Int) - 1)) ∧ Blk W w.heap.size 52 #[.int .i64 (12), .int .i64 I, .int .i64 O, .int .i64 Z, .int .i64 T, .int .i64 P, .int .i64 C, .int .i64 H, .slice ba' bn bc] ∧ Ext w W)
  case first => as_aux_lemma =>
    go_region_held3 (fun w' => w'.cell? ⟨S, 0, none⟩ = some (.int .i64 12) ∧ w'.cell? ⟨S, 1, none⟩ = some (.int .i64 I) ∧ w'.cell? ⟨S, 2, none⟩ = some (.int .i64 O) ∧ w'.cell? ⟨S, 3, none⟩ = some (.int .i64 Z) ∧ w'.cell? ⟨S, 4, none⟩ = some (.int .i64 T) ∧ w'.cell? ⟨S, 5, none⟩ = some (.int .i64 P) ∧ w'.cell? ⟨S, 6, none⟩ = some (.int .i64 C) ∧ w'.cell? ⟨S, 7, none⟩ = some (.int .i64 H) ∧ w'.cell? ⟨S, 8, none⟩ = some (.slice ba' bn bc) ∧ w'.cell? ⟨S, 9, none⟩ = some (.slice ia s.length ic) ∧ S < w'.heap.size ∧ Ext w w')
      (refine ⟨?_, ?_, ?_, ?_, ?_, ?_, ?_, ?_, ?_, ?_, ?_, ?_⟩ <;> first | (simp [go_sem, *]; done) | omega | (simp at z1; omega) | (simp at z2; omega) | (simp at z3; omega) | (simp at z4; omega) | exact (by repeat (first | with_reducible exact Ext.refl _ | with_reducible apply Ext.drew | with_reducible apply Ext.drewN | with_reducible apply Ext.alloc | ((with_reducible refine Ext.setCell ?_ ?_ _); rotate_left; focus (first | (simp; done) | (simp; omega) | omega)) | with_reducible refine Ext.tr ?_ xc | with_reducible assumption)))
      (fail)
    all_goals
      go_wp2_with fail
      go_meet
      exact ⟨rfl, rfl, (Blk.new _ _ _).drew, (by repeat (first | with_reducible exact Ext.refl _ | with_reducible apply Ext.drew | with_reducible apply Ext.drewN | with_reducible apply Ext.alloc | ((with_reducible refine Ext.setCell ?_ ?_ _); rotate_left; focus (first | (simp; done) | (simp; omega) | omega)) | with_reducible refine Ext.tr ?_ xc | with_reducible assumption))⟩
  obtain ⟨rfl, rfl, bl, xc⟩ := hcut
  have j9 := xc.cell k9
  have j10 := xc.cell k10
  have g10 := (HBLK.out.ext xc).frozen 10
  have l0 := (bl.cell 0).trans (show (#[.int .i64 (12), .int .i64 I, .int .i64 O, .int .i64 Z, .int .i64 T, .int .i64 P, .int .i64 C, .int .i64 H, .slice ba' bn bc] : Array Value)[0]? = some (.int .i64 (12)) from rfl)
  have l1 := (bl.cell 1).trans (show (#[.int .i64 (12), .int .i64 I, .int .i64 O, .int .i64 Z, .int .i64 T, .int .i64 P, .int .i64 C, .int .i64 H, .slice ba' bn bc] : Array Value)[1]? = some (.int .i64 I) from rfl)
  have l2 := (bl.cell 2).trans (show (#[.int .i64 (12), .int .i64 I, .int .i64 O, .int .i64 Z, .int .i64 T, .int .i64 P, .int .i64 C, .int .i64 H, .slice ba' bn bc] : Array Value)[2]? = some (.int .i64 O) from rfl)
  have zc : w.heap.size < wc.heap.size := bl.lt
  have zSc : S < wc.heap.size := by omega
  have BL := Lib.hid bl
  have XC := Lib.hid xc
  have HB := Lib.hid (HBLK.out.ext xc)
  have HR := Lib.hid (HROW.out.ext xc)
  have GX := Lib.hid ((GB.refl w S).ext xc)
  clear k0 k1 k2 k3 k4 k5 k6 k7 k8 k9 f10 k10 bl xc HROW
  go_wp2_with fail
  go_quiet (fail)
  go_wp2
  go_ret
  exact ⟨rfl, GX.out.ext (by repeat (first | with_reducible exact Ext.refl _ | with_reducible apply Ext.drew | with_reducible apply Ext.drewN | with_reducible apply Ext.alloc | ((with_reducible refine Ext.setCell ?_ ?_ _); rotate_left; focus (first | (simp; done) | (simp; omega) | omega)) | with_reducible refine Ext.tr ?_ xc | with_reducible assumption)), HB.out.ext (by repeat (first | with_reducible exact Ext.refl _ | with_reducible apply Ext.drew | with_reducible apply Ext.drewN | with_reducible apply Ext.alloc | ((with_reducible refine Ext.setCell ?_ ?_ _); rotate_left; focus (first | (simp; done) | (simp; omega) | omega)) | with_reducible refine Ext.tr ?_ xc | with_reducible assumption))⟩
set_option maxHeartbeats 8000000 in
set_option maxRecDepth 100000 in
theorem does_att_i {B S : Nat} {w : World} {I O Z T P C H : Int} {ba' ia : Option Addr} {bn bc ic : Nat} {first : Bool} {nm : Bs} {a a2 : Int} (h : DoesAt B w S ⟨12, I, O, Z, T, P, C, H⟩ (.slice ba' bn bc) (.slice ia 2 ic) first nm [a, a2]) (hne : a2 ≠ I) :
    Calls Tryd.prog 67 #[.pointer (some ⟨S, 0, none⟩)] w fun e w' => DoesP B w S ⟨12, I, O, Z, T, P, C, H⟩ (.slice ba' bn bc) (.slice ia 2 ic) first nm e w' none := by
  obtain ⟨hblk, hrow, hlow, hdim, hname⟩ := h
  obtain ⟨d1, d2, d3, d4⟩ := fullS_dims hdim
  have zS := hblk.lt
  have k0 := (hblk.cell 0).trans (show (stepA ⟨12, I, O, Z, T, P, C, H⟩ (.slice ba' bn bc) (.slice ia 2 ic) (.slice none 0 0) (.slice none 0 0) first (ba nm) 0 false)[0]? = some (.int .i64 12) from rfl)
  have k1 := (hblk.cell 1).trans (show (stepA ⟨12, I, O, Z, T, P, C, H⟩ (.slice ba' bn bc) (.slice ia 2 ic) (.slice none 0 0) (.slice none 0 0) first (ba nm) 0 false)[1]? = some (.int .i64 I) from rfl)
  have k2 := (hblk.cell 2).trans (show (stepA ⟨12, I, O, Z, T, P, C, H⟩ (.slice ba' bn bc) (.slice ia 2 ic) (.slice none 0 0) (.slice none 0 0) first (ba nm) 0 false)[2]? = some (.int .i64 O) from rfl)
  have k3 := (hblk.cell 3).trans (show (stepA ⟨12, I, O, Z, T, P, C, H⟩ (.slice ba' bn bc) (.slice ia 2 ic) (.slice none 0 0) (.slice none 0 0) first (ba nm) 0 false)[3]? = some (.int .i64 Z) from rfl)
  have k4 := (hblk.cell 4).trans (show (stepA ⟨12, I, O, Z, T, P, C, H⟩ (.slice ba' bn bc) (.slice ia 2 ic) (.slice none 0 0) (.slice none 0 0) first (ba nm) 0 false)[4]? = some (.int .i64 T) from rfl)
  have k5 := (hblk.cell 5).trans (show (stepA ⟨12, I, O, Z, T, P, C, H⟩ (.slice ba' bn bc) (.slice ia 2 ic) (.slice none 0 0) (.slice none 0 0) first (ba nm) 0 false)[5]? = some (.int .i64 P) from rfl)
  have k6 := (hblk.cell 6).trans (show (stepA ⟨12, I, O, Z, T, P, C, H⟩ (.slice ba' bn bc) (.slice ia 2 ic) (.slice none 0 0) (.slice none 0 0) first (ba nm) 0 false)[6]? = some (.int .i64 C) from rfl)
  have k7 := (hblk.cell 7).trans (show (stepA ⟨12, I, O, Z, T, P, C, H⟩ (.slice ba' bn bc) (.slice ia 2 ic) (.slice none 0 0) (.slice none 0 0) first (ba nm) 0 false)[7]? = some (.int .i64 H) from rfl)
  have k8 := (hblk.cell 8).trans (show (stepA ⟨12, I, O, Z, T, P, C, H⟩ (.slice ba' bn bc) (.slice ia 2 ic) (.slice none 0 0) (.slice none 0 0) first (ba nm) 0 false)[8]? = some (.slice ba' bn bc) from rfl)
  have k9 := (hblk.cell 9).trans (show (stepA ⟨12, I, O, Z, T, P, C, H⟩ (.slice ba' bn bc) (.slice ia 2 ic) (.slice none 0 0) (.slice none 0 0) first (ba nm) 0 false)[9]? = some (.slice ia 2 ic) from rfl)
  have f10 := hblk.frozen 10
  have k10 := (hblk.cell 10).trans (show (stepA ⟨12, I, O, Z, T, P, C, H⟩ (.slice ba' bn bc) (.slice ia 2 ic) (.slice none 0 0) (.slice none 0 0) first (ba nm) 0 false)[10]? = some (.slice none 0 0) from rfl)
  have HBLK := Lib.hid hblk
  have HROW := Lib.hid hrow
  have HD := Lib.hid d2
  have tn : (a2 != I) = true := by simpa using hne
  clear hne
  clear hblk hrow hdim d2
  go_enter Tryd.func67, Tryd.ntmps67
  go_wp2_with fail
  go_cut [3, 4] (fun s3 s4 W => s3 = .pointer (some ⟨w.heap.size, 0, none⟩) ∧ s4 = .int .i64 (1) ∧ Blk W w.heap.size 52 #[.int .i64 (12), .int .i64 I, .int .i64 O, .int .i64 Z, .int .i64 T, .int .i64 P, .int .i64 C, .int .i64 H, .slice ba' bn bc] ∧ Ext w W)
  case first => as_aux_lemma =>
    go_region_held3 (fun w' => w'.cell? ⟨S, 0, none⟩ = some (.int .i64 12) ∧ w'.cell? ⟨S, 1, none⟩ = some (.int .i64 I) ∧ w'.cell? ⟨S, 2, none⟩ = some (.int .i64 O) ∧ w'.cell? ⟨S, 3, none⟩ = some (.int .i64 Z) ∧ w'.cell? ⟨S, 4, none⟩ = some (.int .i64 T) ∧ w'.cell? ⟨S, 5, none⟩ = some (.int .i64 P) ∧ w'.cell? ⟨S, 6, none⟩ = some (.int .i64 C) ∧ w'.cell? ⟨S, 7, none⟩ = some (.int .i64 H) ∧ w'.cell? ⟨S, 8, none⟩ = some (.slice ba' bn bc) ∧ w'.cell? ⟨S, 9, none⟩ = some (.slice ia 2 ic) ∧ S < w'.heap.size ∧ Ext w w')
      (refine ⟨?_, ?_, ?_, ?_, ?_, ?_, ?_, ?_, ?_, ?_, ?_, ?_⟩ <;> first | (simp [go_sem, *]; done) | omega | (simp at z1; omega) | (simp at z2; omega) | (simp at z3; omega) | (simp at z4; omega) | exact (by repeat (first | with_reducible exact Ext.refl _ | with_reducible apply Ext.drew | with_reducible apply Ext.drewN | with_reducible apply Ext.alloc | ((with_reducible refine Ext.setCell ?_ ?_ _); rotate_left; focus (first | (simp; done) | (simp; omega) | omega)) | with_reducible refine Ext.tr ?_ xc | with_reducible assumption)))
      (fail)
    all_goals
      go_wp2_with fail
      go_meet
      exact ⟨rfl, rfl, (Blk.new _ _ _).drew, (by repeat (first | with_reducible exact Ext.refl _ | with_reducible apply Ext.drew | with_reducible apply Ext.drewN | with_reducible apply Ext.alloc | ((with_reducible refine Ext.setCell ?_ ?_ _); rotate_left; focus (first | (simp; done) | (simp; omega) | omega)) | with_reducible refine Ext.tr ?_ xc | with_reducible assumption))⟩
  obtain ⟨rfl, rfl, bl, xc⟩ := hcut
  have j9 := xc.cell k9
  have j10 := xc.cell k10
  have g10 := (HBLK.out.ext xc).frozen 10
  have l0 := (bl.cell 0).trans (show (#[.int .i64 (12), .int .i64 I, .int .i64 O, .int .i64 Z, .int .i64 T, .int .i64 P, .int .i64 C, .int .i64 H, .slice ba' bn bc] : Array Value)[0]? = some (.int .i64 (12)) from rfl)
  have l1 := (bl.cell 1).trans (show (#[.int .i64 (12), .int .i64 I, .int .i64 O, .int .i64 Z, .int .i64 T, .int .i64 P, .int .i64 C, .int .i64 H, .slice ba' bn bc] : Array Value)[1]? = some (.int .i64 I) from rfl)
  have l2 := (bl.cell 2).trans (show (#[.int .i64 (12), .int .i64 I, .int .i64 O, .int .i64 Z, .int .i64 T, .int .i64 P, .int .i64 C, .int .i64 H, .slice ba' bn bc] : Array Value)[2]? = some (.int .i64 O) from rfl)
  have zc : w.heap.size < wc.heap.size := bl.lt
  have zSc : S < wc.heap.size := by omega
  have BL := Lib.hid bl
  have XC := Lib.hid xc
  have HB := Lib.hid (HBLK.out.ext xc)
  have HR := Lib.hid (HROW.out.ext xc)
  have GX := Lib.hid ((GB.refl w S).ext xc)
  clear k0 k1 k2 k3 k4 k5 k6 k7 k8 k9 f10 k10 bl xc HROW
  obtain ⟨b, o, rfl, ci⟩ := row_cell HR.out.1 (show 1 < 2 by omega)
  simp only [List.getD_cons_succ, List.getD_cons_zero] at ci
  go_wp2_with fail
  go_quiet (fail)
  go_wp2
  go_ret
  exact ⟨rfl, GX.out.ext (by repeat (first | with_reducible exact Ext.refl _ | with_reducible apply Ext.drew | with_reducible apply Ext.drewN | with_reducible apply Ext.alloc | ((with_reducible refine Ext.setCell ?_ ?_ _); rotate_left; focus (first | (simp; done) | (simp; omega) | omega)) | with_reducible refine Ext.tr ?_ xc | with_reducible assumption)), HB.out.ext (by repeat (first | with_reducible exact Ext.refl _ | with_reducible apply Ext.drew | with_reducible apply Ext.drewN | with_reducible apply Ext.alloc | ((with_reducible refine Ext.setCell ?_ ?_ _); rotate_left; focus (first | (simp; done) | (simp; omega) | omega)) | with_reducible refine Ext.tr ?_ xc | with_reducible assumption))⟩
set_option maxHeartbeats 8000000 in
set_option maxRecDepth 100000 in
theorem does_att_h {B S : Nat} {w : World} {I O Z T P C H : Int} {ba' ia : Option Addr} {bn bc ic : Nat} {first : Bool} {nm : Bs} {a : Int} (h : DoesAt B w S ⟨12, I, O, Z, T, P, C, H⟩ (.slice ba' bn bc) (.slice ia 2 ic) first nm [a, I]) (hH : 1 ≤ H) (hI : 0 ≤ I) (hm : I % H ≠ 0) :
    Calls Tryd.prog 67 #[.pointer (some ⟨S, 0, none⟩)] w fun e w' => DoesP B w S ⟨12, I, O, Z, T, P, C, H⟩ (.slice ba' bn bc) (.slice ia 2 ic) first nm e w' none := by
  obtain ⟨hblk, hrow, hlow, hdim, hname⟩ := h
  obtain ⟨d1, d2, d3, d4⟩ := fullS_dims hdim
  have zS := hblk.lt
  have k0 := (hblk.cell 0).trans (show (stepA ⟨12, I, O, Z, T, P, C, H⟩ (.slice ba' bn bc) (.slice ia 2 ic) (.slice none 0 0) (.slice none 0 0) first (ba nm) 0 false)[0]? = some (.int .i64 12) from rfl)
  have k1 := (hblk.cell 1).trans (show (stepA ⟨12, I, O, Z, T, P, C, H⟩ (.slice ba' bn bc) (.slice ia 2 ic) (.slice none 0 0) (.slice none 0 0) first (ba nm) 0 false)[1]? = some (.int .i64 I) from rfl)
  have k2 := (hblk.cell 2).trans (show (stepA ⟨12, I, O, Z, T, P, C, H⟩ (.slice ba' bn bc) (.slice ia 2 ic) (.slice none 0 0) (.slice none 0 0) first (ba nm) 0 false)[2]? = some (.int .i64 O) from rfl)
  have k3 := (hblk.cell 3).trans (show (stepA ⟨12, I, O, Z, T, P, C, H⟩ (.slice ba' bn bc) (.slice ia 2 ic) (.slice none 0 0) (.slice none 0 0) first (ba nm) 0 false)[3]? = some (.int .i64 Z) from rfl)
  have k4 := (hblk.cell 4).trans (show (stepA ⟨12, I, O, Z, T, P, C, H⟩ (.slice ba' bn bc) (.slice ia 2 ic) (.slice none 0 0) (.slice none 0 0) first (ba nm) 0 false)[4]? = some (.int .i64 T) from rfl)
  have k5 := (hblk.cell 5).trans (show (stepA ⟨12, I, O, Z, T, P, C, H⟩ (.slice ba' bn bc) (.slice ia 2 ic) (.slice none 0 0) (.slice none 0 0) first (ba nm) 0 false)[5]? = some (.int .i64 P) from rfl)
  have k6 := (hblk.cell 6).trans (show (stepA ⟨12, I, O, Z, T, P, C, H⟩ (.slice ba' bn bc) (.slice ia 2 ic) (.slice none 0 0) (.slice none 0 0) first (ba nm) 0 false)[6]? = some (.int .i64 C) from rfl)
  have k7 := (hblk.cell 7).trans (show (stepA ⟨12, I, O, Z, T, P, C, H⟩ (.slice ba' bn bc) (.slice ia 2 ic) (.slice none 0 0) (.slice none 0 0) first (ba nm) 0 false)[7]? = some (.int .i64 H) from rfl)
  have k8 := (hblk.cell 8).trans (show (stepA ⟨12, I, O, Z, T, P, C, H⟩ (.slice ba' bn bc) (.slice ia 2 ic) (.slice none 0 0) (.slice none 0 0) first (ba nm) 0 false)[8]? = some (.slice ba' bn bc) from rfl)
  have k9 := (hblk.cell 9).trans (show (stepA ⟨12, I, O, Z, T, P, C, H⟩ (.slice ba' bn bc) (.slice ia 2 ic) (.slice none 0 0) (.slice none 0 0) first (ba nm) 0 false)[9]? = some (.slice ia 2 ic) from rfl)
  have f10 := hblk.frozen 10
  have k10 := (hblk.cell 10).trans (show (stepA ⟨12, I, O, Z, T, P, C, H⟩ (.slice ba' bn bc) (.slice ia 2 ic) (.slice none 0 0) (.slice none 0 0) first (ba nm) 0 false)[10]? = some (.slice none 0 0) from rfl)
  have HBLK := Lib.hid hblk
  have HROW := Lib.hid hrow
  have HD := Lib.hid d2
  have hH0 : ¬ H = 0 := by omega
  have tm : I.tmod H = I % H := Int.tmod_eq_emod_of_nonneg hI
  have tn : (I % H != 0) = true := by simpa using hm
  clear hm hH
  clear hblk hrow hdim d2
  go_enter Tryd.func67, Tryd.ntmps67
  go_wp2_with fail
  go_cut [3, 4] (fun s3 s4 W => s3 = .pointer (some ⟨w.heap.size, 0, none⟩) ∧ s4 = .int .i64 (1) ∧ Blk W w.heap.size 52 #[.int .i64 (12), .int .i64 I, .int .i64 O, .int .i64 Z, .int .i64 T, .int .i64 P, .int .i64 C, .int .i64 H, .slice ba' bn bc] ∧ Ext w W)
  case first => as_aux_lemma =>
    go_region_held3 (fun w' => w'.cell? ⟨S, 0, none⟩ = some (.int .i64 12) ∧ w'.cell? ⟨S, 1, none⟩ = some (.int .i64 I) ∧ w'.cell? ⟨S, 2, none⟩ = some (.int .i64 O) ∧ w'.cell? ⟨S, 3, none⟩ = some (.int .i64 Z) ∧ w'.cell? ⟨S, 4, none⟩ = some (.int .i64 T) ∧ w'.cell? ⟨S, 5, none⟩ = some (.int .i64 P) ∧ w'.cell? ⟨S, 6, none⟩ = some (.int .i64 C) ∧ w'.cell? ⟨S, 7, none⟩ = some (.int .i64 H) ∧ w'.cell? ⟨S, 8, none⟩ = some (.slice ba' bn bc) ∧ w'.cell? ⟨S, 9, none⟩ = some (.slice ia 2 ic) ∧ S < w'.heap.size ∧ Ext w w')
      (refine ⟨?_, ?_, ?_, ?_, ?_, ?_, ?_, ?_, ?_, ?_, ?_, ?_⟩ <;> first | (simp [go_sem, *]; done) | omega | (simp at z1; omega) | (simp at z2; omega) | (simp at z3; omega) | (simp at z4; omega) | exact (by repeat (first | with_reducible exact Ext.refl _ | with_reducible apply Ext.drew | with_reducible apply Ext.drewN | with_reducible apply Ext.alloc | ((with_reducible refine Ext.setCell ?_ ?_ _); rotate_left; focus (first | (simp; done) | (simp; omega) | omega)) | with_reducible refine Ext.tr ?_ xc | with_reducible assumption)))
      (fail)
    all_goals
      go_wp2_with fail
      go_meet
      exact ⟨rfl, rfl, (Blk.new _ _ _).drew, (by repeat (first | with_reducible exact Ext.refl _ | with_reducible apply Ext.drew | with_reducible apply Ext.drewN | with_reducible apply Ext.alloc | ((with_reducible refine Ext.setCell ?_ ?_ _); rotate_left; focus (first | (simp; done) | (simp; omega) | omega)) | with_reducible refine Ext.tr ?_ xc | with_reducible assumption))⟩
  obtain ⟨rfl, rfl, bl, xc⟩ := hcut
  have j9 := xc.cell k9
  have j10 := xc.cell k10
  have g10 := (HBLK.out.ext xc).frozen 10
  have l0 := (bl.cell 0).trans (show (#[.int .i64 (12), .int .i64 I, .int .i64 O, .int .i64 Z, .int .i64 T, .int .i64 P, .int .i64 C, .int .i64 H, .slice ba' bn bc] : Array Value)[0]? = some (.int .i64 (12)) from rfl)
  have l1 := (bl.cell 1).trans (show (#[.int .i64 (12), .int .i64 I, .int .i64 O, .int .i64 Z, .int .i64 T, .int .i64 P, .int .i64 C, .int .i64 H, .slice ba' bn bc] : Array Value)[1]? = some (.int .i64 I) from rfl)
  have l2 := (bl.cell 2).trans (show (#[.int .i64 (12), .int .i64 I, .int .i64 O, .int .i64 Z, .int .i64 T, .int .i64 P, .int .i64 C, .int .i64 H, .slice ba' bn bc] : Array Value)[2]? = some (.int .i64 O) from rfl)
  have zc : w.heap.size < wc.heap.size := bl.lt
  have zSc : S < wc.heap.size := by omega
  have BL := Lib.hid bl
  have XC := Lib.hid xc
  have HB := Lib.hid (HBLK.out.ext xc)
  have HR := Lib.hid (HROW.out.ext xc)
  have GX := Lib.hid ((GB.refl w S).ext xc)
  clear k0 k1 k2 k3 k4 k5 k6 k7 k8 k9 f10 k10 bl xc HROW
  obtain ⟨b, o, rfl, ci⟩ := row_cell HR.out.1 (show 1 < 2 by omega)
  simp only [List.getD_cons_succ, List.getD_cons_zero] at ci
  have l7 := (BL.out).cells 7 (show _ = some (.int .i64 H) from rfl)
  go_wp2_with fail
  go_quiet (fail)
  go_wp2
  go_ret
  exact ⟨rfl, GX.out.ext (by repeat (first | with_reducible exact Ext.refl _ | with_reducible apply Ext.drew | with_reducible apply Ext.drewN | with_reducible apply Ext.alloc | ((with_reducible refine Ext.setCell ?_ ?_ _); rotate_left; focus (first | (simp; done) | (simp; omega) | omega)) | with_reducible refine Ext.tr ?_ xc | with_reducible assumption)), HB.out.ext (by repeat (first | with_reducible exact Ext.refl _ | with_reducible apply Ext.drew | with_reducible apply Ext.drewN | with_reducible apply Ext.alloc | ((with_reducible refine Ext.setCell ?_ ?_ _); rotate_left; focus (first | (simp; done) | (simp; omega) | omega)) | with_reducible refine Ext.tr ?_ xc | with_reducible assumption))⟩
set_option maxHeartbeats 8000000 in
set_option maxRecDepth 100000 in
theorem does_att {B S : Nat} {w : World} {I O Z T P C H : Int} {ba' ia : Option Addr} {bn bc ic : Nat} {first : Bool} {nm : Bs} {a : Int} (h : DoesAt B w S ⟨12, I, O, Z, T, P, C, H⟩ (.slice ba' bn bc) (.slice ia 2 ic) first nm [a, I]) (hH : 1 ≤ H) (hI : 0 ≤ I) (hm : I % H = 0) :
    Calls Tryd.prog 67 #[.pointer (some ⟨S, 0, none⟩)] w fun e w' => DoesP B w S ⟨12, I, O, Z, T, P, C, H⟩ (.slice ba' bn bc) (.slice ia 2 ic) first nm e w' (some ([a, I], [⟨nm ++ [46, 113], [I, I], I, I⟩, ⟨nm ++ [46, 107], [I, I], I, I⟩, ⟨nm ++ [46, 118], [I, I], I, I⟩, ⟨nm ++ [46, 111], [I, I], I, I⟩])) := by
  obtain ⟨hblk, hrow, hlow, hdim, hname⟩ := h
  obtain ⟨d1, d2, d3, d4⟩ := fullS_dims hdim
  have zS := hblk.lt
  have k0 := (hblk.cell 0).trans (show (stepA ⟨12, I, O, Z, T, P, C, H⟩ (.slice ba' bn bc) (.slice ia 2 ic) (.slice none 0 0) (.slice none 0 0) first (ba nm) 0 false)[0]? = some (.int .i64 12) from rfl)
  have k1 := (hblk.cell 1).trans (show (stepA ⟨12, I, O, Z, T, P, C, H⟩ (.slice ba' bn bc) (.slice ia 2 ic) (.slice none 0 0) (.slice none 0 0) first (ba nm) 0 false)[1]? = some (.int .i64 I) from rfl)
  have k2 := (hblk.cell 2).trans (show (stepA ⟨12, I, O, Z, T, P, C, H⟩ (.slice ba' bn bc) (.slice ia 2 ic) (.slice none 0 0) (.slice none 0 0) first (ba nm) 0 false)[2]? = some (.int .i64 O) from rfl)
  have k3 := (hblk.cell 3).trans (show (stepA ⟨12, I, O, Z, T, P, C, H⟩ (.slice ba' bn bc) (.slice ia 2 ic) (.slice none 0 0) (.slice none 0 0) first (ba nm) 0 false)[3]? = some (.int .i64 Z) from rfl)
  have k4 := (hblk.cell 4).trans (show (stepA ⟨12, I, O, Z, T, P, C, H⟩ (.slice ba' bn bc) (.slice ia 2 ic) (.slice none 0 0) (.slice none 0 0) first (ba nm) 0 false)[4]? = some (.int .i64 T) from rfl)
  have k5 := (hblk.cell 5).trans (show (stepA ⟨12, I, O, Z, T, P, C, H⟩ (.slice ba' bn bc) (.slice ia 2 ic) (.slice none 0 0) (.slice none 0 0) first (ba nm) 0 false)[5]? = some (.int .i64 P) from rfl)
  have k6 := (hblk.cell 6).trans (show (stepA ⟨12, I, O, Z, T, P, C, H⟩ (.slice ba' bn bc) (.slice ia 2 ic) (.slice none 0 0) (.slice none 0 0) first (ba nm) 0 false)[6]? = some (.int .i64 C) from rfl)
  have k7 := (hblk.cell 7).trans (show (stepA ⟨12, I, O, Z, T, P, C, H⟩ (.slice ba' bn bc) (.slice ia 2 ic) (.slice none 0 0) (.slice none 0 0) first (ba nm) 0 false)[7]? = some (.int .i64 H) from rfl)
  have k8 := (hblk.cell 8).trans (show (stepA ⟨12, I, O, Z, T, P, C, H⟩ (.slice ba' bn bc) (.slice ia 2 ic) (.slice none 0 0) (.slice none 0 0) first (ba nm) 0 false)[8]? = some (.slice ba' bn bc) from rfl)
  have k9 := (hblk.cell 9).trans (show (stepA ⟨12, I, O, Z, T, P, C, H⟩ (.slice ba' bn bc) (.slice ia 2 ic) (.slice none 0 0) (.slice none 0 0) first (ba nm) 0 false)[9]? = some (.slice ia 2 ic) from rfl)
  have f10 := hblk.frozen 10
  have k10 := (hblk.cell 10).trans (show (stepA ⟨12, I, O, Z, T, P, C, H⟩ (.slice ba' bn bc) (.slice ia 2 ic) (.slice none 0 0) (.slice none 0 0) first (ba nm) 0 false)[10]? = some (.slice none 0 0) from rfl)
  have HBLK := Lib.hid hblk
  have HROW := Lib.hid hrow
  have HD := Lib.hid d2
  have hH0 : ¬ H = 0 := by omega
  have tm : I.tmod H = 0 := by rw [Int.tmod_eq_emod_of_nonneg hI]; exact hm
  clear hm hH
  clear hblk hrow hdim d2
  go_enter Tryd.func67, Tryd.ntmps67
  go_wp2_with fail
  go_cut [3, 4] (fun s3 s4 W => s3 = .pointer (some ⟨w.heap.size, 0, none⟩) ∧ s4 = .int .i64 (1) ∧ Blk W w.heap.size 52 #[.int .i64 (12), .int .i64 I, .int .i64 O, .int .i64 Z, .int .i64 T, .int .i64 P, .int .i64 C, .int .i64 H, .slice ba' bn bc] ∧ Ext w W)
  case first => as_aux_lemma =>
    go_region_held3 (fun w' => w'.cell? ⟨S, 0, none⟩ = some (.int .i64 12) ∧ w'.cell? ⟨S, 1, none⟩ = some (.int .i64 I) ∧ w'.cell? ⟨S, 2, none⟩ = some (.int .i64 O) ∧ w'.cell? ⟨S, 3, none⟩ = some (.int .i64 Z) ∧ w'.cell? ⟨S, 4, none⟩ = some (.int .i64 T) ∧ w'.cell? ⟨S, 5, none⟩ = some (.int .i64 P) ∧ w'.cell? ⟨S, 6, none⟩ = some (.int .i64 C) ∧ w'.cell? ⟨S, 7, none⟩ = some (.int .i64 H) ∧ w'.cell? ⟨S, 8, none⟩ = some (.slice ba' bn bc) ∧ w'.cell? ⟨S, 9, none⟩ = some (.slice ia 2 ic) ∧ S < w'.heap.size ∧ Ext w w')
      (refine ⟨?_, ?_, ?_, ?_, ?_, ?_, ?_, ?_, ?_, ?_, ?_, ?_⟩ <;> first | (simp [go_sem, *]; done) | omega | (simp at z1; omega) | (simp at z2; omega) | (simp at z3; omega) | (simp at z4; omega) | exact (by repeat (first | with_reducible exact Ext.refl _ | with_reducible apply Ext.drew | with_reducible apply Ext.drewN | with_reducible apply Ext.alloc | ((with_reducible refine Ext.setCell ?_ ?_ _); rotate_left; focus (first | (simp; done) | (simp; omega) | omega)) | with_reducible refine Ext.tr ?_ xc | with_reducible assumption)))
      (fail)
    all_goals
      go_wp2_with fail
      go_meet
      exact ⟨rfl, rfl, (Blk.new _ _ _).drew, (by repeat (first | with_reducible exact Ext.refl _ | with_reducible apply Ext.drew | with_reducible apply Ext.drewN | with_reducible apply Ext.alloc | ((with_reducible refine Ext.setCell ?_ ?_ _); rotate_left; focus (first | (simp; done) | (simp; omega) | omega)) | with_reducible refine Ext.tr ?_ xc | with_reducible assumption))⟩
  obtain ⟨rfl, rfl, bl, xc⟩ := hcut
  have j9 := xc.cell k9
  have j10 := xc.cell k10
  have g10 := (HBLK.out.ext xc).frozen 10
  have l0 := (bl.cell 0).trans (show (#[.int .i64 (12), .int .i64 I, .int .i64 O, .int .i64 Z, .int .i64 T, .int .i64 P, .int .i64 C, .int .i64 H, .slice ba' bn bc] : Array Value)[0]? = some (.int .i64 (12)) from rfl)
  have l1 := (bl.cell 1).trans (show (#[.int .i64 (12), .int .i64 I, .int .i64 O, .int .i64 Z, .int .i64 T, .int .i64 P, .int .i64 C, .int .i64 H, .slice ba' bn bc] : Array Value)[1]? = some (.int .i64 I) from rfl)
  have l2 := (bl.cell 2).trans (show (#[.int .i64 (12), .int .i64 I, .int .i64 O, .int .i64 Z, .int .i64 T, .int .i64 P, .int .i64 C, .int .i64 H, .slice ba' bn bc] : Array Value)[2]? = some (.int .i64 O) from rfl)
  have zc : w.heap.size < wc.heap.size := bl.lt
  have zSc : S < wc.heap.size := by omega
  have BL := Lib.hid bl
  have XC := Lib.hid xc
  have HB := Lib.hid (HBLK.out.ext xc)
  have HR := Lib.hid (HROW.out.ext xc)
  have GX := Lib.hid ((GB.refl w S).ext xc)
  clear k0 k1 k2 k3 k4 k5 k6 k7 k8 k9 f10 k10 bl xc HROW
  obtain ⟨b, o, rfl, ci⟩ := row_cell HR.out.1 (show 1 < 2 by omega)
  simp only [List.getD_cons_succ, List.getD_cons_zero] at ci
  have l7 := (BL.out).cells 7 (show _ = some (.int .i64 H) from rfl)
  have hne : w.heap.size ≠ S := by omega
  go_wp2_with fail
  go_quiet (fail)
  rename_i nq
  go_wp2_with fail
  obtain ⟨w2, hw2⟩ : ∃ w2, ((wc.drewN nq).setCell ⟨S, 10, none⟩ (.slice (some ⟨b, o, none⟩) 2 ic)).alloc (.cells #[.string ⟨#[113]⟩, .string ⟨#[107]⟩, .string ⟨#[118]⟩, .string ⟨#[111]⟩] 9) = w2 := ⟨_, rfl⟩
  have B2 : Hid (Blk w2 S 71 (stepA ⟨12, I, O, Z, T, P, C, H⟩ (.slice ba' bn bc) (.slice (some ⟨b, o, none⟩) 2 ic) (.slice (some ⟨b, o, none⟩) 2 ic) (.slice none 0 0) first (ba nm) 0 false)) := Lib.hid (by rw [← hw2]; exact ((HB.out.drewN _).set_ 10 _).alloc _)
  have P2 : Hid (ParsAt w2.heap.size w2 (.slice none 0 0) []) := Lib.hid (ParsAt.nil _ _)
  have R2 : Hid (RowS B w2 (.slice (some ⟨b, o, none⟩) 2 ic) [a, I]) := Lib.hid (by rw [← hw2]; exact ((HR.out.ext ((Ext.refl wc).drewN _)).gb ((GB.refl _ S).set 10 _) (HB.out.drewN _) (by decide) hlow).ext (Ext.alloc (Ext.refl _) _))
  have G2 : Hid (GB w w2 S) := Lib.hid (by rw [← hw2]; exact (((GX.out.ext ((Ext.refl wc).drewN _)).set 10 _).ext (Ext.alloc (Ext.refl _) _)))
  have bl2 : Blk w2 w.heap.size 52 #[.int .i64 12, .int .i64 I, .int .i64 O, .int .i64 Z, .int .i64 T, .int .i64 P, .int .i64 C, .int .i64 H, .slice ba' bn bc] := by rw [← hw2]; exact ((BL.out.drewN _).far (fun e => hne e) _).alloc _
  have e2 := bl2.cells 1 (show _ = some (.int .i64 I) from rfl)
  clear bl2
  have bs2 : Blk w2 wc.heap.size 9 #[.string ⟨#[113]⟩, .string ⟨#[107]⟩, .string ⟨#[118]⟩, .string ⟨#[111]⟩] := by
    have h := Blk.new ((wc.drewN nq).setCell ⟨S, 10, none⟩ (.slice (some ⟨b, o, none⟩) 2 ic)) 9 #[.string ⟨#[113]⟩, .string ⟨#[107]⟩, .string ⟨#[118]⟩, .string ⟨#[111]⟩]
    rw [hw2] at h
    simpa using h
  have s2_0 := bs2.cells 0 (show _ = some (.string ⟨#[113]⟩) from rfl)
  have s2_1 := bs2.cells 1 (show _ = some (.string ⟨#[107]⟩) from rfl)
  have s2_2 := bs2.cells 2 (show _ = some (.string ⟨#[118]⟩) from rfl)
  have s2_3 := bs2.cells 3 (show _ = some (.string ⟨#[111]⟩) from rfl)
  have zw2 : wc.heap.size < w2.heap.size := bs2.lt
  rw [hw2]
  clear hw2 bs2 j9 j10 g10 l0 l1 l2 l7 ci
  refine wp_loop_rounds 5 ?_
  rw [rounds_succ]
  go_wp2_with fail
  refine (sparam_any (B := w2.heap.size) (l1 := [113]) (sh := [I, I]) (B2.out.ext (by repeat (first | with_reducible exact Ext.refl _ | with_reducible apply Ext.drew | with_reducible apply Ext.drewN | with_reducible apply Ext.alloc | ((with_reducible refine Ext.setCell ?_ ?_ _); rotate_left; focus (first | (simp; done) | (simp; omega) | omega)) | with_reducible refine Ext.tr ?_ xc | with_reducible assumption))) (P2.out.ext (by repeat (first | with_reducible exact Ext.refl _ | with_reducible apply Ext.drew | with_reducible apply Ext.drewN | with_reducible apply Ext.alloc | ((with_reducible refine Ext.setCell ?_ ?_ _); rotate_left; focus (first | (simp; done) | (simp; omega) | omega)) | with_reducible refine Ext.tr ?_ xc | with_reducible assumption))) (by first | (simp; done) | (simp; omega) | omega) (by omega) rfl (by simp) hname (by simp) (fresh_own _ rfl (by omega) [I, I] (by simp [maxLen]))).mono ?_
  rintro e w3 ⟨pa3, pc3, rfl, b3, p3, h3⟩
  have X3 := Lib.hid (show Ext w2 (w2.alloc (.cells (ints [I, I]) 3)) from (by repeat (first | with_reducible exact Ext.refl _ | with_reducible apply Ext.drew | with_reducible apply Ext.drewN | with_reducible apply Ext.alloc | ((with_reducible refine Ext.setCell ?_ ?_ _); rotate_left; focus (first | (simp; done) | (simp; omega) | omega)) | with_reducible refine Ext.tr ?_ xc | with_reducible assumption)))
  have e3 := h3.cell (p := ⟨w.heap.size, 1, none⟩) (X3.out.cell e2) (by first | (simp; done) | (simp; omega) | omega) hne
  have s3_0 := h3.cell (p := ⟨wc.heap.size, 0, none⟩) (X3.out.cell s2_0) (by first | (simp; done) | (simp; omega) | omega) (by first | (simp; done) | (simp; omega) | omega)
  have s3_1 := h3.cell (p := ⟨wc.heap.size, 1, none⟩) (X3.out.cell s2_1) (by first | (simp; done) | (simp; omega) | omega) (by first | (simp; done) | (simp; omega) | omega)
  have s3_2 := h3.cell (p := ⟨wc.heap.size, 2, none⟩) (X3.out.cell s2_2) (by first | (simp; done) | (simp; omega) | omega) (by first | (simp; done) | (simp; omega) | omega)
  have s3_3 := h3.cell (p := ⟨wc.heap.size, 3, none⟩) (X3.out.cell s2_3) (by first | (simp; done) | (simp; omega) | omega) (by first | (simp; done) | (simp; omega) | omega)
  have z3 := h3.size
  simp at z3
  have B3 := Lib.hid b3
  have P3 := Lib.hid p3
  have R3 := Lib.hid ((R2.out.ext X3.out).chg h3 (by omega) hlow)
  have G3 := Lib.hid (Chg.gb (G2.out.ext X3.out) (h3.low (by omega)))
  clear b3 p3 h3 e2 s2_0 s2_1 s2_2 s2_3 B2 P2 R2 G2
  go_wp2_with fail
  rw [rounds_succ]
  go_wp2_with fail
  refine (sparam_any (B := w2.heap.size) (l1 := [107]) (sh := [I, I]) (B3.out.ext (by repeat (first | with_reducible exact Ext.refl _ | with_reducible apply Ext.drew | with_reducible apply Ext.drewN | with_reducible apply Ext.alloc | ((with_reducible refine Ext.setCell ?_ ?_ _); rotate_left; focus (first | (simp; done) | (simp; omega) | omega)) | with_reducible refine Ext.tr ?_ xc | with_reducible assumption))) (P3.out.ext (by repeat (first | with_reducible exact Ext.refl _ | with_reducible apply Ext.drew | with_reducible apply Ext.drewN | with_reducible apply Ext.alloc | ((with_reducible refine Ext.setCell ?_ ?_ _); rotate_left; focus (first | (simp; done) | (simp; omega) | omega)) | with_reducible refine Ext.tr ?_ xc | with_reducible assumption))) (by first | (simp; done) | (simp; omega) | omega) (by omega) rfl (by simp) hname (by simp) (fresh_own _ rfl (by omega) [I, I] (by simp [maxLen]))).mono ?_
  rintro e w4 ⟨pa4, pc4, rfl, b4, p4, h4⟩
  have X4 := Lib.hid (show Ext w3 (w3.alloc (.cells (ints [I, I]) 3)) from (by repeat (first | with_reducible exact Ext.refl _ | with_reducible apply Ext.drew | with_reducible apply Ext.drewN | with_reducible apply Ext.alloc | ((with_reducible refine Ext.setCell ?_ ?_ _); rotate_left; focus (first | (simp; done) | (simp; omega) | omega)) | with_reducible refine Ext.tr ?_ xc | with_reducible assumption)))
  have e4 := h4.cell (p := ⟨w.heap.size, 1, none⟩) (X4.out.cell e3) (by first | (simp; done) | (simp; omega) | omega) hne
  have s4_0 := h4.cell (p := ⟨wc.heap.size, 0, none⟩) (X4.out.cell s3_0) (by first | (simp; done) | (simp; omega) | omega) (by first | (simp; done) | (simp; omega) | omega)
  have s4_1 := h4.cell (p := ⟨wc.heap.size, 1, none⟩) (X4.out.cell s3_1) (by first | (simp; done) | (simp; omega) | omega) (by first | (simp; done) | (simp; omega) | omega)
  have s4_2 := h4.cell (p := ⟨wc.heap.size, 2, none⟩) (X4.out.cell s3_2) (by first | (simp; done) | (simp; omega) | omega) (by first | (simp; done) | (simp; omega) | omega)
  have s4_3 := h4.cell (p := ⟨wc.heap.size, 3, none⟩) (X4.out.cell s3_3) (by first | (simp; done) | (simp; omega) | omega) (by first | (simp; done) | (simp; omega) | omega)
  have z4 := h4.size
  simp at z4
  have B4 := Lib.hid b4
  have P4 := Lib.hid p4
  have R4 := Lib.hid ((R3.out.ext X4.out).chg h4 (by omega) hlow)
  have G4 := Lib.hid (Chg.gb (G3.out.ext X4.out) (h4.low (by omega)))
  clear b4 p4 h4 e3 s3_0 s3_1 s3_2 s3_3 B3 P3 R3 G3
  go_wp2_with fail
  rw [rounds_succ]
  go_wp2_with fail
  refine (sparam_any (B := w2.heap.size) (l1 := [118]) (sh := [I, I]) (B4.out.ext (by repeat (first | with_reducible exact Ext.refl _ | with_reducible apply Ext.drew | with_reducible apply Ext.drewN | with_reducible apply Ext.alloc | ((with_reducible refine Ext.setCell ?_ ?_ _); rotate_left; focus (first | (simp; done) | (simp; omega) | omega)) | with_reducible refine Ext.tr ?_ xc | with_reducible assumption))) (P4.out.ext (by repeat (first | with_reducible exact Ext.refl _ | with_reducible apply Ext.drew | with_reducible apply Ext.drewN | with_reducible apply Ext.alloc | ((with_reducible refine Ext.setCell ?_ ?_ _); rotate_left; focus (first | (simp; done) | (simp; omega) | omega)) | with_reducible refine Ext.tr ?_ xc | with_reducible assumption))) (by first | (simp; done) | (simp; omega) | omega) (by omega) rfl (by simp) hname (by simp) (fresh_own _ rfl (by omega) [I, I] (by simp [maxLen]))).mono ?_
  rintro e w5 ⟨pa5, pc5, rfl, b5, p5, h5⟩
  have X5 := Lib.hid (show Ext w4 (w4.alloc (.cells (ints [I, I]) 3)) from (by repeat (first | with_reducible exact Ext.refl _ | with_reducible apply Ext.drew | with_reducible apply Ext.drewN | with_reducible apply Ext.alloc | ((with_reducible refine Ext.setCell ?_ ?_ _); rotate_left; focus (first | (simp; done) | (simp; omega) | omega)) | with_reducible refine Ext.tr ?_ xc | with_reducible assumption)))
  have e5 := h5.cell (p := ⟨w.heap.size, 1, none⟩) (X5.out.cell e4) (by first | (simp; done) | (simp; omega) | omega) hne
  have s5_0 := h5.cell (p := ⟨wc.heap.size, 0, none⟩) (X5.out.cell s4_0) (by first | (simp; done) | (simp; omega) | omega) (by first | (simp; done) | (simp; omega) | omega)
  have s5_1 := h5.cell (p := ⟨wc.heap.size, 1, none⟩) (X5.out.cell s4_1) (by first | (simp; done) | (simp; omega) | omega) (by first | (simp; done) | (simp; omega) | omega)
  have s5_2 := h5.cell (p := ⟨wc.heap.size, 2, none⟩) (X5.out.cell s4_2) (by first | (simp; done) | (simp; omega) | omega) (by first | (simp; done) | (simp; omega) | omega)
  have s5_3 := h5.cell (p := ⟨wc.heap.size, 3, none⟩) (X5.out.cell s4_3) (by first | (simp; done) | (simp; omega) | omega) (by first | (simp; done) | (simp; omega) | omega)
  have z5 := h5.size
  simp at z5
  have B5 := Lib.hid b5
  have P5 := Lib.hid p5
  have R5 := Lib.hid ((R4.out.ext X5.out).chg h5 (by omega) hlow)
  have G5 := Lib.hid (Chg.gb (G4.out.ext X5.out) (h5.low (by omega)))
  clear b5 p5 h5 e4 s4_0 s4_1 s4_2 s4_3 B4 P4 R4 G4
  go_wp2_with fail
  rw [rounds_succ]
  go_wp2_with fail
  refine (sparam_any (B := w2.heap.size) (l1 := [111]) (sh := [I, I]) (B5.out.ext (by repeat (first | with_reducible exact Ext.refl _ | with_reducible apply Ext.drew | with_reducible apply Ext.drewN | with_reducible apply Ext.alloc | ((with_reducible refine Ext.setCell ?_ ?_ _); rotate_left; focus (first | (simp; done) | (simp; omega) | omega)) | with_reducible refine Ext.tr ?_ xc | with_reducible assumption))) (P5.out.ext (by repeat (first | with_reducible exact Ext.refl _ | with_reducible apply Ext.drew | with_reducible apply Ext.drewN | with_reducible apply Ext.alloc | ((with_reducible refine Ext.setCell ?_ ?_ _); rotate_left; focus (first | (simp; done) | (simp; omega) | omega)) | with_reducible refine Ext.tr ?_ xc | with_reducible assumption))) (by first | (simp; done) | (simp; omega) | omega) (by omega) rfl (by simp) hname (by simp) (fresh_own _ rfl (by omega) [I, I] (by simp [maxLen]))).mono ?_
  rintro e w6 ⟨pa6, pc6, rfl, b6, p6, h6⟩
  have X6 := Lib.hid (show Ext w5 (w5.alloc (.cells (ints [I, I]) 3)) from (by repeat (first | with_reducible exact Ext.refl _ | with_reducible apply Ext.drew | with_reducible apply Ext.drewN | with_reducible apply Ext.alloc | ((with_reducible refine Ext.setCell ?_ ?_ _); rotate_left; focus (first | (simp; done) | (simp; omega) | omega)) | with_reducible refine Ext.tr ?_ xc | with_reducible assumption)))
  have e6 := h6.cell (p := ⟨w.heap.size, 1, none⟩) (X6.out.cell e5) (by first | (simp; done) | (simp; omega) | omega) hne
  have s6_0 := h6.cell (p := ⟨wc.heap.size, 0, none⟩) (X6.out.cell s5_0) (by first | (simp; done) | (simp; omega) | omega) (by first | (simp; done) | (simp; omega) | omega)
  have s6_1 := h6.cell (p := ⟨wc.heap.size, 1, none⟩) (X6.out.cell s5_1) (by first | (simp; done) | (simp; omega) | omega) (by first | (simp; done) | (simp; omega) | omega)
  have s6_2 := h6.cell (p := ⟨wc.heap.size, 2, none⟩) (X6.out.cell s5_2) (by first | (simp; done) | (simp; omega) | omega) (by first | (simp; done) | (simp; omega) | omega)
  have s6_3 := h6.cell (p := ⟨wc.heap.size, 3, none⟩) (X6.out.cell s5_3) (by first | (simp; done) | (simp; omega) | omega) (by first | (simp; done) | (simp; omega) | omega)
  have z6 := h6.size
  simp at z6
  have B6 := Lib.hid b6
  have P6 := Lib.hid p6
  have R6 := Lib.hid ((R5.out.ext X6.out).chg h6 (by omega) hlow)
  have G6 := Lib.hid (Chg.gb (G5.out.ext X6.out) (h6.low (by omega)))
  clear b6 p6 h6 e5 s5_0 s5_1 s5_2 s5_3 B5 P5 R5 G5
  go_wp2_with fail
  rw [rounds_succ]
  go_wp2
  go_ret
  exact ⟨rfl, G6.out, some ⟨b, o, none⟩, ic, pa6, pc6, B6.out, R6.out, by simpa using P6.out.base (by omega)⟩
end Go.Proofs.YtgokenbojppnhaaDoor
