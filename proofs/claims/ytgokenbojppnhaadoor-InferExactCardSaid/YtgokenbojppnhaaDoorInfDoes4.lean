/- (*infer.step).does: pools; a convolution that does not go with the shape. -/
import Derived.Test.YtgokenbojppnhaaDoorInfDoes0
namespace Go.Proofs.YtgokenbojppnhaaDoor
open Go.RowKit
attribute [local go_sem ↓] Go.wp_at_zero Go.wp_at_succ
set_option maxHeartbeats 8000000 in
set_option maxRecDepth 100000 in
theorem does_pool8_n {B S : Nat} {w : World} {I O Z T P C H : Int} {ba' ia : Option Addr} {bn bc ic : Nat} {first : Bool} {nm : Bs} {s : List Int} (h : DoesAt B w S ⟨8, I, O, Z, T, P, C, H⟩ (.slice ba' bn bc) (.slice ia s.length ic) first nm s) (hwin : WinOk ⟨8, I, O, Z, T, P, C, H⟩) (hI0 : imageS ⟨8, I, O, Z, T, P, C, H⟩ s = none) :
    Calls Tryd.prog 67 #[.pointer (some ⟨S, 0, none⟩)] w fun e w' => DoesP B w S ⟨8, I, O, Z, T, P, C, H⟩ (.slice ba' bn bc) (.slice ia s.length ic) first nm e w' none := by
  obtain ⟨hblk, hrow, hlow, hdim, hname⟩ := h
  obtain ⟨d1, d2, d3, d4⟩ := fullS_dims hdim
  have zS := hblk.lt
  have k0 := (hblk.cell 0).trans (show (stepA ⟨8, I, O, Z, T, P, C, H⟩ (.slice ba' bn bc) (.slice ia s.length ic) (.slice none 0 0) (.slice none 0 0) first (ba nm) 0 false)[0]? = some (.int .i64 8) from rfl)
  have k1 := (hblk.cell 1).trans (show (stepA ⟨8, I, O, Z, T, P, C, H⟩ (.slice ba' bn bc) (.slice ia s.length ic) (.slice none 0 0) (.slice none 0 0) first (ba nm) 0 false)[1]? = some (.int .i64 I) from rfl)
  have k2 := (hblk.cell 2).trans (show (stepA ⟨8, I, O, Z, T, P, C, H⟩ (.slice ba' bn bc) (.slice ia s.length ic) (.slice none 0 0) (.slice none 0 0) first (ba nm) 0 false)[2]? = some (.int .i64 O) from rfl)
  have k3 := (hblk.cell 3).trans (show (stepA ⟨8, I, O, Z, T, P, C, H⟩ (.slice ba' bn bc) (.slice ia s.length ic) (.slice none 0 0) (.slice none 0 0) first (ba nm) 0 false)[3]? = some (.int .i64 Z) from rfl)
  have k4 := (hblk.cell 4).trans (show (stepA ⟨8, I, O, Z, T, P, C, H⟩ (.slice ba' bn bc) (.slice ia s.length ic) (.slice none 0 0) (.slice none 0 0) first (ba nm) 0 false)[4]? = some (.int .i64 T) from rfl)
  have k5 := (hblk.cell 5).trans (show (stepA ⟨8, I, O, Z, T, P, C, H⟩ (.slice ba' bn bc) (.slice ia s.length ic) (.slice none 0 0) (.slice none 0 0) first (ba nm) 0 false)[5]? = some (.int .i64 P) from rfl)
  have k6 := (hblk.cell 6).trans (show (stepA ⟨8, I, O, Z, T, P, C, H⟩ (.slice ba' bn bc) (.slice ia s.length ic) (.slice none 0 0) (.slice none 0 0) first (ba nm) 0 false)[6]? = some (.int .i64 C) from rfl)
  have k7 := (hblk.cell 7).trans (show (stepA ⟨8, I, O, Z, T, P, C, H⟩ (.slice ba' bn bc) (.slice ia s.length ic) (.slice none 0 0) (.slice none 0 0) first (ba nm) 0 false)[7]? = some (.int .i64 H) from rfl)
  have k8 := (hblk.cell 8).trans (show (stepA ⟨8, I, O, Z, T, P, C, H⟩ (.slice ba' bn bc) (.slice ia s.length ic) (.slice none 0 0) (.slice none 0 0) first (ba nm) 0 false)[8]? = some (.slice ba' bn bc) from rfl)
  have k9 := (hblk.cell 9).trans (show (stepA ⟨8, I, O, Z, T, P, C, H⟩ (.slice ba' bn bc) (.slice ia s.length ic) (.slice none 0 0) (.slice none 0 0) first (ba nm) 0 false)[9]? = some (.slice ia s.length ic) from rfl)
  have f10 := hblk.frozen 10
  have k10 := (hblk.cell 10).trans (show (stepA ⟨8, I, O, Z, T, P, C, H⟩ (.slice ba' bn bc) (.slice ia s.length ic) (.slice none 0 0) (.slice none 0 0) first (ba nm) 0 false)[10]? = some (.slice none 0 0) from rfl)
  have HBLK := Lib.hid hblk
  have HROW := Lib.hid hrow
  have HD := Lib.hid d2
  have hI := Lib.hid hI0
  clear hI0
  clear hblk hrow hdim d2
  go_enter Tryd.func67, Tryd.ntmps67
  go_wp2_with fail
  go_cut [3, 4] (fun s3 s4 W => s3 = .pointer (some ⟨w.heap.size, 0, none⟩) ∧ s4 = .int .i64 (IntKind.i64.wrap ((s.length : Int) - 1)) ∧ Blk W w.heap.size 52 #[.int .i64 (8), .int .i64 I, .int .i64 O, .int .i64 Z, .int .i64 T, .int .i64 P, .int .i64 C, .int .i64 H, .slice ba' bn bc] ∧ Ext w W)
  case first => as_aux_lemma =>
    go_region_held3 (fun w' => w'.cell? ⟨S, 0, none⟩ = some (.int .i64 8) ∧ w'.cell? ⟨S, 1, none⟩ = some (.int .i64 I) ∧ w'.cell? ⟨S, 2, none⟩ = some (.int .i64 O) ∧ w'.cell? ⟨S, 3, none⟩ = some (.int .i64 Z) ∧ w'.cell? ⟨S, 4, none⟩ = some (.int .i64 T) ∧ w'.cell? ⟨S, 5, none⟩ = some (.int .i64 P) ∧ w'.cell? ⟨S, 6, none⟩ = some (.int .i64 C) ∧ w'.cell? ⟨S, 7, none⟩ = some (.int .i64 H) ∧ w'.cell? ⟨S, 8, none⟩ = some (.slice ba' bn bc) ∧ w'.cell? ⟨S, 9, none⟩ = some (.slice ia s.length ic) ∧ S < w'.heap.size ∧ Ext w w')
      (refine ⟨?_, ?_, ?_, ?_, ?_, ?_, ?_, ?_, ?_, ?_, ?_, ?_⟩ <;> first | (simp [go_sem, *]; done) | omega | (simp at z1; omega) | (simp at z2; omega) | (simp at z3; omega) | (simp at z4; omega) | exact (by repeat (first | with_reducible exact Ext.refl _ | with_reducible apply Ext.drew | with_reducible apply Ext.drewN | with_reducible apply Ext.alloc | ((with_reducible refine Ext.setCell ?_ ?_ _); rotate_left; focus (first | (simp; done) | (simp; omega) | omega)) | with_reducible refine Ext.tr ?_ x1 | with_reducible refine Ext.tr ?_ xc | with_reducible assumption)))
      (fail)
    all_goals
      go_wp2_with fail
      go_meet
      exact ⟨rfl, rfl, (Blk.new _ _ _).drew, (by repeat (first | with_reducible exact Ext.refl _ | with_reducible apply Ext.drew | with_reducible apply Ext.drewN | with_reducible apply Ext.alloc | ((with_reducible refine Ext.setCell ?_ ?_ _); rotate_left; focus (first | (simp; done) | (simp; omega) | omega)) | with_reducible refine Ext.tr ?_ x1 | with_reducible refine Ext.tr ?_ xc | with_reducible assumption))⟩
  obtain ⟨rfl, rfl, bl, xc⟩ := hcut
  have j9 := xc.cell k9
  have j10 := xc.cell k10
  have g10 := (HBLK.out.ext xc).frozen 10
  have l0 := (bl.cell 0).trans (show (#[.int .i64 (8), .int .i64 I, .int .i64 O, .int .i64 Z, .int .i64 T, .int .i64 P, .int .i64 C, .int .i64 H, .slice ba' bn bc] : Array Value)[0]? = some (.int .i64 (8)) from rfl)
  have l1 := (bl.cell 1).trans (show (#[.int .i64 (8), .int .i64 I, .int .i64 O, .int .i64 Z, .int .i64 T, .int .i64 P, .int .i64 C, .int .i64 H, .slice ba' bn bc] : Array Value)[1]? = some (.int .i64 I) from rfl)
  have l2 := (bl.cell 2).trans (show (#[.int .i64 (8), .int .i64 I, .int .i64 O, .int .i64 Z, .int .i64 T, .int .i64 P, .int .i64 C, .int .i64 H, .slice ba' bn bc] : Array Value)[2]? = some (.int .i64 O) from rfl)
  have zc : w.heap.size < wc.heap.size := bl.lt
  have zSc : S < wc.heap.size := by omega
  have BL := Lib.hid bl
  have XC := Lib.hid xc
  have HB := Lib.hid (HBLK.out.ext xc)
  have HR := Lib.hid (HROW.out.ext xc)
  have GX := Lib.hid ((GB.refl w S).ext xc)
  clear k0 k1 k2 k3 k4 k5 k6 k7 k8 k9 f10 k10 bl xc HROW
  go_wp2_with fail
  refine (image_any HB.out HR.out.1 HD.out hwin).mono ?_
  rintro e w1 (⟨-, rfl, x1⟩ | ⟨p, oa, oc, hp, -⟩)
  · go_wp2
    go_ret
    exact ⟨rfl, GX.out.ext (by repeat (first | with_reducible exact Ext.refl _ | with_reducible apply Ext.drew | with_reducible apply Ext.drewN | with_reducible apply Ext.alloc | ((with_reducible refine Ext.setCell ?_ ?_ _); rotate_left; focus (first | (simp; done) | (simp; omega) | omega)) | with_reducible refine Ext.tr ?_ x1 | with_reducible refine Ext.tr ?_ xc | with_reducible assumption)), HB.out.ext (by repeat (first | with_reducible exact Ext.refl _ | with_reducible apply Ext.drew | with_reducible apply Ext.drewN | with_reducible apply Ext.alloc | ((with_reducible refine Ext.setCell ?_ ?_ _); rotate_left; focus (first | (simp; done) | (simp; omega) | omega)) | with_reducible refine Ext.tr ?_ x1 | with_reducible refine Ext.tr ?_ xc | with_reducible assumption))⟩
  · rw [hI.out] at hp; cases hp
set_option maxHeartbeats 8000000 in
set_option maxRecDepth 100000 in
theorem does_pool8 {B S : Nat} {w : World} {I O Z T P C H : Int} {ba' ia : Option Addr} {bn bc ic : Nat} {first : Bool} {nm : Bs} {s : List Int} (h : DoesAt B w S ⟨8, I, O, Z, T, P, C, H⟩ (.slice ba' bn bc) (.slice ia s.length ic) first nm s) {p : List Int} (hwin : WinOk ⟨8, I, O, Z, T, P, C, H⟩) (hI0 : imageS ⟨8, I, O, Z, T, P, C, H⟩ s = some p) :
    Calls Tryd.prog 67 #[.pointer (some ⟨S, 0, none⟩)] w fun e w' => DoesP B w S ⟨8, I, O, Z, T, P, C, H⟩ (.slice ba' bn bc) (.slice ia s.length ic) first nm e w' (some (s.getD 0 0 :: p, [])) := by
  obtain ⟨hblk, hrow, hlow, hdim, hname⟩ := h
  obtain ⟨d1, d2, d3, d4⟩ := fullS_dims hdim
  have zS := hblk.lt
  have k0 := (hblk.cell 0).trans (show (stepA ⟨8, I, O, Z, T, P, C, H⟩ (.slice ba' bn bc) (.slice ia s.length ic) (.slice none 0 0) (.slice none 0 0) first (ba nm) 0 false)[0]? = some (.int .i64 8) from rfl)
  have k1 := (hblk.cell 1).trans (show (stepA ⟨8, I, O, Z, T, P, C, H⟩ (.slice ba' bn bc) (.slice ia s.length ic) (.slice none 0 0) (.slice none 0 0) first (ba nm) 0 false)[1]? = some (.int .i64 I) from rfl)
  have k2 := (hblk.cell 2).trans (show (stepA ⟨8, I, O, Z, T, P, C, H⟩ (.slice ba' bn bc) (.slice ia s.length ic) (.slice none 0 0) (.slice none 0 0) first (ba nm) 0 false)[2]? = some (.int .i64 O) from rfl)
  have k3 := (hblk.cell 3).trans (show (stepA ⟨8, I, O, Z, T, P, C, H⟩ (.slice ba' bn bc) (.slice ia s.length ic) (.slice none 0 0) (.slice none 0 0) first (ba nm) 0 false)[3]? = some (.int .i64 Z) from rfl)
  have k4 := (hblk.cell 4).trans (show (stepA ⟨8, I, O, Z, T, P, C, H⟩ (.slice ba' bn bc) (.slice ia s.length ic) (.slice none 0 0) (.slice none 0 0) first (ba nm) 0 false)[4]? = some (.int .i64 T) from rfl)
  have k5 := (hblk.cell 5).trans (show (stepA ⟨8, I, O, Z, T, P, C, H⟩ (.slice ba' bn bc) (.slice ia s.length ic) (.slice none 0 0) (.slice none 0 0) first (ba nm) 0 false)[5]? = some (.int .i64 P) from rfl)
  have k6 := (hblk.cell 6).trans (show (stepA ⟨8, I, O, Z, T, P, C, H⟩ (.slice ba' bn bc) (.slice ia s.length ic) (.slice none 0 0) (.slice none 0 0) first (ba nm) 0 false)[6]? = some (.int .i64 C) from rfl)
  have k7 := (hblk.cell 7).trans (show (stepA ⟨8, I, O, Z, T, P, C, H⟩ (.slice ba' bn bc) (.slice ia s.length ic) (.slice none 0 0) (.slice none 0 0) first (ba nm) 0 false)[7]? = some (.int .i64 H) from rfl)
  have k8 := (hblk.cell 8).trans (show (stepA ⟨8, I, O, Z, T, P, C, H⟩ (.slice ba' bn bc) (.slice ia s.length ic) (.slice none 0 0) (.slice none 0 0) first (ba nm) 0 false)[8]? = some (.slice ba' bn bc) from rfl)
  have k9 := (hblk.cell 9).trans (show (stepA ⟨8, I, O, Z, T, P, C, H⟩ (.slice ba' bn bc) (.slice ia s.length ic) (.slice none 0 0) (.slice none 0 0) first (ba nm) 0 false)[9]? = some (.slice ia s.length ic) from rfl)
  have f10 := hblk.frozen 10
  have k10 := (hblk.cell 10).trans (show (stepA ⟨8, I, O, Z, T, P, C, H⟩ (.slice ba' bn bc) (.slice ia s.length ic) (.slice none 0 0) (.slice none 0 0) first (ba nm) 0 false)[10]? = some (.slice none 0 0) from rfl)
  have HBLK := Lib.hid hblk
  have HROW := Lib.hid hrow
  have HD := Lib.hid d2
  have hI := Lib.hid hI0
  clear hI0
  clear hblk hrow hdim d2
  go_enter Tryd.func67, Tryd.ntmps67
  go_wp2_with fail
  go_cut [3, 4] (fun s3 s4 W => s3 = .pointer (some ⟨w.heap.size, 0, none⟩) ∧ s4 = .int .i64 (IntKind.i64.wrap ((s.length : Int) - 1)) ∧ Blk W w.heap.size 52 #[.int .i64 (8), .int .i64 I, .int .i64 O, .int .i64 Z, .int .i64 T, .int .i64 P, .int .i64 C, .int .i64 H, .slice ba' bn bc] ∧ Ext w W)
  case first => as_aux_lemma =>
    go_region_held3 (fun w' => w'.cell? ⟨S, 0, none⟩ = some (.int .i64 8) ∧ w'.cell? ⟨S, 1, none⟩ = some (.int .i64 I) ∧ w'.cell? ⟨S, 2, none⟩ = some (.int .i64 O) ∧ w'.cell? ⟨S, 3, none⟩ = some (.int .i64 Z) ∧ w'.cell? ⟨S, 4, none⟩ = some (.int .i64 T) ∧ w'.cell? ⟨S, 5, none⟩ = some (.int .i64 P) ∧ w'.cell? ⟨S, 6, none⟩ = some (.int .i64 C) ∧ w'.cell? ⟨S, 7, none⟩ = some (.int .i64 H) ∧ w'.cell? ⟨S, 8, none⟩ = some (.slice ba' bn bc) ∧ w'.cell? ⟨S, 9, none⟩ = some (.slice ia s.length ic) ∧ S < w'.heap.size ∧ Ext w w')
      (refine ⟨?_, ?_, ?_, ?_, ?_, ?_, ?_, ?_, ?_, ?_, ?_, ?_⟩ <;> first | (simp [go_sem, *]; done) | omega | (simp at z1; omega) | (simp at z2; omega) | (simp at z3; omega) | (simp at z4; omega) | exact (by repeat (first | with_reducible exact Ext.refl _ | with_reducible apply Ext.drew | with_reducible apply Ext.drewN | with_reducible apply Ext.alloc | ((with_reducible refine Ext.setCell ?_ ?_ _); rotate_left; focus (first | (simp; done) | (simp; omega) | omega)) | with_reducible refine Ext.tr ?_ x1 | with_reducible refine Ext.tr ?_ xc | with_reducible assumption)))
      (fail)
    all_goals
      go_wp2_with fail
      go_meet
      exact ⟨rfl, rfl, (Blk.new _ _ _).drew, (by repeat (first | with_reducible exact Ext.refl _ | with_reducible apply Ext.drew | with_reducible apply Ext.drewN | with_reducible apply Ext.alloc | ((with_reducible refine Ext.setCell ?_ ?_ _); rotate_left; focus (first | (simp; done) | (simp; omega) | omega)) | with_reducible refine Ext.tr ?_ x1 | with_reducible refine Ext.tr ?_ xc | with_reducible assumption))⟩
  obtain ⟨rfl, rfl, bl, xc⟩ := hcut
  have j9 := xc.cell k9
  have j10 := xc.cell k10
  have g10 := (HBLK.out.ext xc).frozen 10
  have l0 := (bl.cell 0).trans (show (#[.int .i64 (8), .int .i64 I, .int .i64 O, .int .i64 Z, .int .i64 T, .int .i64 P, .int .i64 C, .int .i64 H, .slice ba' bn bc] : Array Value)[0]? = some (.int .i64 (8)) from rfl)
  have l1 := (bl.cell 1).trans (show (#[.int .i64 (8), .int .i64 I, .int .i64 O, .int .i64 Z, .int .i64 T, .int .i64 P, .int .i64 C, .int .i64 H, .slice ba' bn bc] : Array Value)[1]? = some (.int .i64 I) from rfl)
  have l2 := (bl.cell 2).trans (show (#[.int .i64 (8), .int .i64 I, .int .i64 O, .int .i64 Z, .int .i64 T, .int .i64 P, .int .i64 C, .int .i64 H, .slice ba' bn bc] : Array Value)[2]? = some (.int .i64 O) from rfl)
  have zc : w.heap.size < wc.heap.size := bl.lt
  have zSc : S < wc.heap.size := by omega
  have BL := Lib.hid bl
  have XC := Lib.hid xc
  have HB := Lib.hid (HBLK.out.ext xc)
  have HR := Lib.hid (HROW.out.ext xc)
  have GX := Lib.hid ((GB.refl w S).ext xc)
  clear k0 k1 k2 k3 k4 k5 k6 k7 k8 k9 f10 k10 bl xc HROW
  obtain ⟨i0, hi0, hz0, hz1, hz2⟩ := info_parts cloneI_info
  go_wp2_with fail
  refine (image_any HB.out HR.out.1 HD.out hwin).mono ?_
  rintro e w1 (⟨hp, -⟩ | ⟨q, oa, oc, hp, rfl, x1, h1⟩)
  · rw [hI.out] at hp; cases hp
  · rw [hI.out] at hp
    cases hp
    have hs0 : 0 < s.length := by
      rcases Nat.eq_zero_or_pos s.length with h0 | h0
      · have h := hI.out
        unfold imageS at h
        rw [if_neg (by omega)] at h
        cases h
      · exact h0
    obtain ⟨b, o, rfl, ci⟩ := row_cell (HR.out.1.ext x1) hs0
    simp only [Nat.add_zero] at ci
    have hpl : p.length ≤ 1000 := by
      have h := hI.out
      unfold imageS placesS at h
      split at h
      · split at h
        · cases h; simp; omega
        · cases h
      · cases h
    have hs0' : (0 : Int) < (s.length : Int) := by omega
    have n9 := x1.cell j9
    have n10 := x1.cell j10
    have nf := (HB.out.ext x1).frozen 10
    have zz := x1.size
    have HB1 := Lib.hid (HB.out.ext x1)
    have GX1 := Lib.hid (GX.out.ext x1)
    have H1 := Lib.hid h1
    obtain ⟨a0, ha0⟩ : ∃ a0, s.getD 0 0 = a0 := ⟨_, rfl⟩
    rw [ha0] at ci
    have HA := Lib.hid ha0
    have zS1 : S < w1.heap.size := by omega
    clear j9 j10 g10 l0 l1 l2 h1 x1 ha0
    go_wp2_with (at_builtin; refine wpList_append_row (k := .i64) rfl _ _ 24 rfl w1.heap.size 3 i0 (.int .i64 0) 8 Tryd.underlying24 hi0 hz0 hz1 hz2 rfl _ 1 [.int .i64 a0] rfl (World.ownsRow_lit w1 #[.int .i64 a0] 1 (Nat.le_refl _) (by unfold maxLen; omega) rfl) _ rfl p (H1.out.ext (Ext.alloc (Ext.refl _) _)) (by unfold maxLen; omega) (by omega) (by simp) ?_)
    intro v' w2 hown hgrow
    rw [show 1 + p.length = (a0 :: p).length by simp [Nat.add_comm]] at hown
    obtain ⟨va, vc, rfl⟩ := own_form2 hown
    have hrow : ∀ k, (Value.slice (some ⟨w1.heap.size, 0, none⟩) 1 1).ownBlock = some k → w1.heap.size ≤ k := fun k hk => by simp [Value.ownBlock] at hk; omega
    have b2 := ((HB1.out.alloc (.cells #[.int .i64 a0] 3)).grown hgrow (fun e => by have := hrow _ e.symm; omega))
    have n9' := b2.cells 9 (show _ = some (.slice (some ⟨b, o, none⟩) s.length ic) from rfl)
    have n10' := b2.cells 10 (show _ = some (.slice none 0 0) from rfl)
    have nf' := b2.frozen 10
    have zs' := b2.lt
    have HB2 := Lib.hid b2
    have G2 := Lib.hid ((GX1.out.ext (Ext.alloc (Ext.refl _) (.cells #[.int .i64 a0] 3))).grown hgrow (fun k hk => by have := hrow k hk; omega))
    have OW := Lib.hid hown
    clear hown hgrow hrow b2
    go_wp2
    go_ret
    rw [HA.out]
    refine ⟨rfl, G2.out.set 10 _, va, vc, none, 0, HB2.out.set_ 10 _, RowS.of_own (xs := a0 :: p) (ownsRow_setCell_below OW.out zS1 _), ParsAt.nil _ _⟩
set_option maxHeartbeats 8000000 in
set_option maxRecDepth 100000 in
theorem does_pool9_n {B S : Nat} {w : World} {I O Z T P C H : Int} {ba' ia : Option Addr} {bn bc ic : Nat} {first : Bool} {nm : Bs} {s : List Int} (h : DoesAt B w S ⟨9, I, O, Z, T, P, C, H⟩ (.slice ba' bn bc) (.slice ia s.length ic) first nm s) (hwin : WinOk ⟨9, I, O, Z, T, P, C, H⟩) (hI0 : imageS ⟨9, I, O, Z, T, P, C, H⟩ s = none) :
    Calls Tryd.prog 67 #[.pointer (some ⟨S, 0, none⟩)] w fun e w' => DoesP B w S ⟨9, I, O, Z, T, P, C, H⟩ (.slice ba' bn bc) (.slice ia s.length ic) first nm e w' none := by
  obtain ⟨hblk, hrow, hlow, hdim, hname⟩ := h
  obtain ⟨d1, d2, d3, d4⟩ := fullS_dims hdim
  have zS := hblk.lt
  have k0 := (hblk.cell 0).trans (show (stepA ⟨9, I, O, Z, T, P, C, H⟩ (.slice ba' bn bc) (.slice ia s.length ic) (.slice none 0 0) (.slice none 0 0) first (ba nm) 0 false)[0]? = some (.int .i64 9) from rfl)
  have k1 := (hblk.cell 1).trans (show (stepA ⟨9, I, O, Z, T, P, C, H⟩ (.slice ba' bn bc) (.slice ia s.length ic) (.slice none 0 0) (.slice none 0 0) first (ba nm) 0 false)[1]? = some (.int .i64 I) from rfl)
  have k2 := (hblk.cell 2).trans (show (stepA ⟨9, I, O, Z, T, P, C, H⟩ (.slice ba' bn bc) (.slice ia s.length ic) (.slice none 0 0) (.slice none 0 0) first (ba nm) 0 false)[2]? = some (.int .i64 O) from rfl)
  have k3 := (hblk.cell 3).trans (show (stepA ⟨9, I, O, Z, T, P, C, H⟩ (.slice ba' bn bc) (.slice ia s.length ic) (.slice none 0 0) (.slice none 0 0) first (ba nm) 0 false)[3]? = some (.int .i64 Z) from rfl)
  have k4 := (hblk.cell 4).trans (show (stepA ⟨9, I, O, Z, T, P, C, H⟩ (.slice ba' bn bc) (.slice ia s.length ic) (.slice none 0 0) (.slice none 0 0) first (ba nm) 0 false)[4]? = some (.int .i64 T) from rfl)
  have k5 := (hblk.cell 5).trans (show (stepA ⟨9, I, O, Z, T, P, C, H⟩ (.slice ba' bn bc) (.slice ia s.length ic) (.slice none 0 0) (.slice none 0 0) first (ba nm) 0 false)[5]? = some (.int .i64 P) from rfl)
  have k6 := (hblk.cell 6).trans (show (stepA ⟨9, I, O, Z, T, P, C, H⟩ (.slice ba' bn bc) (.slice ia s.length ic) (.slice none 0 0) (.slice none 0 0) first (ba nm) 0 false)[6]? = some (.int .i64 C) from rfl)
  have k7 := (hblk.cell 7).trans (show (stepA ⟨9, I, O, Z, T, P, C, H⟩ (.slice ba' bn bc) (.slice ia s.length ic) (.slice none 0 0) (.slice none 0 0) first (ba nm) 0 false)[7]? = some (.int .i64 H) from rfl)
  have k8 := (hblk.cell 8).trans (show (stepA ⟨9, I, O, Z, T, P, C, H⟩ (.slice ba' bn bc) (.slice ia s.length ic) (.slice none 0 0) (.slice none 0 0) first (ba nm) 0 false)[8]? = some (.slice ba' bn bc) from rfl)
  have k9 := (hblk.cell 9).trans (show (stepA ⟨9, I, O, Z, T, P, C, H⟩ (.slice ba' bn bc) (.slice ia s.length ic) (.slice none 0 0) (.slice none 0 0) first (ba nm) 0 false)[9]? = some (.slice ia s.length ic) from rfl)
  have f10 := hblk.frozen 10
  have k10 := (hblk.cell 10).trans (show (stepA ⟨9, I, O, Z, T, P, C, H⟩ (.slice ba' bn bc) (.slice ia s.length ic) (.slice none 0 0) (.slice none 0 0) first (ba nm) 0 false)[10]? = some (.slice none 0 0) from rfl)
  have HBLK := Lib.hid hblk
  have HROW := Lib.hid hrow
  have HD := Lib.hid d2
  have hI := Lib.hid hI0
  clear hI0
  clear hblk hrow hdim d2
  go_enter Tryd.func67, Tryd.ntmps67
  go_wp2_with fail
  go_cut [3, 4] (fun s3 s4 W => s3 = .pointer (some ⟨w.heap.size, 0, none⟩) ∧ s4 = .int .i64 (IntKind.i64.wrap ((s.length : Int) - 1)) ∧ Blk W w.heap.size 52 #[.int .i64 (9), .int .i64 I, .int .i64 O, .int .i64 Z, .int .i64 T, .int .i64 P, .int .i64 C, .int .i64 H, .slice ba' bn bc] ∧ Ext w W)
  case first => as_aux_lemma =>
    go_region_held3 (fun w' => w'.cell? ⟨S, 0, none⟩ = some (.int .i64 9) ∧ w'.cell? ⟨S, 1, none⟩ = some (.int .i64 I) ∧ w'.cell? ⟨S, 2, none⟩ = some (.int .i64 O) ∧ w'.cell? ⟨S, 3, none⟩ = some (.int .i64 Z) ∧ w'.cell? ⟨S, 4, none⟩ = some (.int .i64 T) ∧ w'.cell? ⟨S, 5, none⟩ = some (.int .i64 P) ∧ w'.cell? ⟨S, 6, none⟩ = some (.int .i64 C) ∧ w'.cell? ⟨S, 7, none⟩ = some (.int .i64 H) ∧ w'.cell? ⟨S, 8, none⟩ = some (.slice ba' bn bc) ∧ w'.cell? ⟨S, 9, none⟩ = some (.slice ia s.length ic) ∧ S < w'.heap.size ∧ Ext w w')
      (refine ⟨?_, ?_, ?_, ?_, ?_, ?_, ?_, ?_, ?_, ?_, ?_, ?_⟩ <;> first | (simp [go_sem, *]; done) | omega | (simp at z1; omega) | (simp at z2; omega) | (simp at z3; omega) | (simp at z4; omega) | exact (by repeat (first | with_reducible exact Ext.refl _ | with_reducible apply Ext.drew | with_reducible apply Ext.drewN | with_reducible apply Ext.alloc | ((with_reducible refine Ext.setCell ?_ ?_ _); rotate_left; focus (first | (simp; done) | (simp; omega) | omega)) | with_reducible refine Ext.tr ?_ x1 | with_reducible refine Ext.tr ?_ xc | with_reducible assumption)))
      (fail)
    all_goals
      go_wp2_with fail
      go_meet
      exact ⟨rfl, rfl, (Blk.new _ _ _).drew, (by repeat (first | with_reducible exact Ext.refl _ | with_reducible apply Ext.drew | with_reducible apply Ext.drewN | with_reducible apply Ext.alloc | ((with_reducible refine Ext.setCell ?_ ?_ _); rotate_left; focus (first | (simp; done) | (simp; omega) | omega)) | with_reducible refine Ext.tr ?_ x1 | with_reducible refine Ext.tr ?_ xc | with_reducible assumption))⟩
  obtain ⟨rfl, rfl, bl, xc⟩ := hcut
  have j9 := xc.cell k9
  have j10 := xc.cell k10
  have g10 := (HBLK.out.ext xc).frozen 10
  have l0 := (bl.cell 0).trans (show (#[.int .i64 (9), .int .i64 I, .int .i64 O, .int .i64 Z, .int .i64 T, .int .i64 P, .int .i64 C, .int .i64 H, .slice ba' bn bc] : Array Value)[0]? = some (.int .i64 (9)) from rfl)
  have l1 := (bl.cell 1).trans (show (#[.int .i64 (9), .int .i64 I, .int .i64 O, .int .i64 Z, .int .i64 T, .int .i64 P, .int .i64 C, .int .i64 H, .slice ba' bn bc] : Array Value)[1]? = some (.int .i64 I) from rfl)
  have l2 := (bl.cell 2).trans (show (#[.int .i64 (9), .int .i64 I, .int .i64 O, .int .i64 Z, .int .i64 T, .int .i64 P, .int .i64 C, .int .i64 H, .slice ba' bn bc] : Array Value)[2]? = some (.int .i64 O) from rfl)
  have zc : w.heap.size < wc.heap.size := bl.lt
  have zSc : S < wc.heap.size := by omega
  have BL := Lib.hid bl
  have XC := Lib.hid xc
  have HB := Lib.hid (HBLK.out.ext xc)
  have HR := Lib.hid (HROW.out.ext xc)
  have GX := Lib.hid ((GB.refl w S).ext xc)
  clear k0 k1 k2 k3 k4 k5 k6 k7 k8 k9 f10 k10 bl xc HROW
  go_wp2_with fail
  refine (image_any HB.out HR.out.1 HD.out hwin).mono ?_
  rintro e w1 (⟨-, rfl, x1⟩ | ⟨p, oa, oc, hp, -⟩)
  · go_wp2
    go_ret
    exact ⟨rfl, GX.out.ext (by repeat (first | with_reducible exact Ext.refl _ | with_reducible apply Ext.drew | with_reducible apply Ext.drewN | with_reducible apply Ext.alloc | ((with_reducible refine Ext.setCell ?_ ?_ _); rotate_left; focus (first | (simp; done) | (simp; omega) | omega)) | with_reducible refine Ext.tr ?_ x1 | with_reducible refine Ext.tr ?_ xc | with_reducible assumption)), HB.out.ext (by repeat (first | with_reducible exact Ext.refl _ | with_reducible apply Ext.drew | with_reducible apply Ext.drewN | with_reducible apply Ext.alloc | ((with_reducible refine Ext.setCell ?_ ?_ _); rotate_left; focus (first | (simp; done) | (simp; omega) | omega)) | with_reducible refine Ext.tr ?_ x1 | with_reducible refine Ext.tr ?_ xc | with_reducible assumption))⟩
  · rw [hI.out] at hp; cases hp
set_option maxHeartbeats 8000000 in
set_option maxRecDepth 100000 in
theorem does_pool9 {B S : Nat} {w : World} {I O Z T P C H : Int} {ba' ia : Option Addr} {bn bc ic : Nat} {first : Bool} {nm : Bs} {s : List Int} (h : DoesAt B w S ⟨9, I, O, Z, T, P, C, H⟩ (.slice ba' bn bc) (.slice ia s.length ic) first nm s) {p : List Int} (hwin : WinOk ⟨9, I, O, Z, T, P, C, H⟩) (hI0 : imageS ⟨9, I, O, Z, T, P, C, H⟩ s = some p) :
    Calls Tryd.prog 67 #[.pointer (some ⟨S, 0, none⟩)] w fun e w' => DoesP B w S ⟨9, I, O, Z, T, P, C, H⟩ (.slice ba' bn bc) (.slice ia s.length ic) first nm e w' (some (s.getD 0 0 :: p, [])) := by
  obtain ⟨hblk, hrow, hlow, hdim, hname⟩ := h
  obtain ⟨d1, d2, d3, d4⟩ := fullS_dims hdim
  have zS := hblk.lt
  have k0 := (hblk.cell 0).trans (show (stepA ⟨9, I, O, Z, T, P, C, H⟩ (.slice ba' bn bc) (.slice ia s.length ic) (.slice none 0 0) (.slice none 0 0) first (ba nm) 0 false)[0]? = some (.int .i64 9) from rfl)
  have k1 := (hblk.cell 1).trans (show (stepA ⟨9, I, O, Z, T, P, C, H⟩ (.slice ba' bn bc) (.slice ia s.length ic) (.slice none 0 0) (.slice none 0 0) first (ba nm) 0 false)[1]? = some (.int .i64 I) from rfl)
  have k2 := (hblk.cell 2).trans (show (stepA ⟨9, I, O, Z, T, P, C, H⟩ (.slice ba' bn bc) (.slice ia s.length ic) (.slice none 0 0) (.slice none 0 0) first (ba nm) 0 false)[2]? = some (.int .i64 O) from rfl)
  have k3 := (hblk.cell 3).trans (show (stepA ⟨9, I, O, Z, T, P, C, H⟩ (.slice ba' bn bc) (.slice ia s.length ic) (.slice none 0 0) (.slice none 0 0) first (ba nm) 0 false)[3]? = some (.int .i64 Z) from rfl)
  have k4 := (hblk.cell 4).trans (show (stepA ⟨9, I, O, Z, T, P, C, H⟩ (.slice ba' bn bc) (.slice ia s.length ic) (.slice none 0 0) (.slice none 0 0) first (ba nm) 0 false)[4]? = some (.int .i64 T) from rfl)
  have k5 := (hblk.cell 5).trans (show (stepA ⟨9, I, O, Z, T, P, C, H⟩ (.slice ba' bn bc) (.slice ia s.length ic) (.slice none 0 0) (.slice none 0 0) first (ba nm) 0 false)[5]? = some (.int .i64 P) from rfl)
  have k6 := (hblk.cell 6).trans (show (stepA ⟨9, I, O, Z, T, P, C, H⟩ (.slice ba' bn bc) (.slice ia s.length ic) (.slice none 0 0) (.slice none 0 0) first (ba nm) 0 false)[6]? = some (.int .i64 C) from rfl)
  have k7 := (hblk.cell 7).trans (show (stepA ⟨9, I, O, Z, T, P, C, H⟩ (.slice ba' bn bc) (.slice ia s.length ic) (.slice none 0 0) (.slice none 0 0) first (ba nm) 0 false)[7]? = some (.int .i64 H) from rfl)
  have k8 := (hblk.cell 8).trans (show (stepA ⟨9, I, O, Z, T, P, C, H⟩ (.slice ba' bn bc) (.slice ia s.length ic) (.slice none 0 0) (.slice none 0 0) first (ba nm) 0 false)[8]? = some (.slice ba' bn bc) from rfl)
  have k9 := (hblk.cell 9).trans (show (stepA ⟨9, I, O, Z, T, P, C, H⟩ (.slice ba' bn bc) (.slice ia s.length ic) (.slice none 0 0) (.slice none 0 0) first (ba nm) 0 false)[9]? = some (.slice ia s.length ic) from rfl)
  have f10 := hblk.frozen 10
  have k10 := (hblk.cell 10).trans (show (stepA ⟨9, I, O, Z, T, P, C, H⟩ (.slice ba' bn bc) (.slice ia s.length ic) (.slice none 0 0) (.slice none 0 0) first (ba nm) 0 false)[10]? = some (.slice none 0 0) from rfl)
  have HBLK := Lib.hid hblk
  have HROW := Lib.hid hrow
  have HD := Lib.hid d2
  have hI := Lib.hid hI0
  clear hI0
  clear hblk hrow hdim d2
  go_enter Tryd.func67, Tryd.ntmps67
  go_wp2_with fail
  go_cut [3, 4] (fun s3 s4 W => s3 = .pointer (some ⟨w.heap.size, 0, none⟩) ∧ s4 = .int .i64 (IntKind.i64.wrap ((s.length : Int) - 1)) ∧ Blk W w.heap.size 52 #[.int .i64 (9), .int .i64 I, .int .i64 O, .int .i64 Z, .int .i64 T, .int .i64 P, .int .i64 C, .int .i64 H, .slice ba' bn bc] ∧ Ext w W)
  case first => as_aux_lemma =>
    go_region_held3 (fun w' => w'.cell? ⟨S, 0, none⟩ = some (.int .i64 9) ∧ w'.cell? ⟨S, 1, none⟩ = some (.int .i64 I) ∧ w'.cell? ⟨S, 2, none⟩ = some (.int .i64 O) ∧ w'.cell? ⟨S, 3, none⟩ = some (.int .i64 Z) ∧ w'.cell? ⟨S, 4, none⟩ = some (.int .i64 T) ∧ w'.cell? ⟨S, 5, none⟩ = some (.int .i64 P) ∧ w'.cell? ⟨S, 6, none⟩ = some (.int .i64 C) ∧ w'.cell? ⟨S, 7, none⟩ = some (.int .i64 H) ∧ w'.cell? ⟨S, 8, none⟩ = some (.slice ba' bn bc) ∧ w'.cell? ⟨S, 9, none⟩ = some (.slice ia s.length ic) ∧ S < w'.heap.size ∧ Ext w w')
      (refine ⟨?_, ?_, ?_, ?_, ?_, ?_, ?_, ?_, ?_, ?_, ?_, ?_⟩ <;> first | (simp [go_sem, *]; done) | omega | (simp at z1; omega) | (simp at z2; omega) | (simp at z3; omega) | (simp at z4; omega) | exact (by repeat (first | with_reducible exact Ext.refl _ | with_reducible apply Ext.drew | with_reducible apply Ext.drewN | with_reducible apply Ext.alloc | ((with_reducible refine Ext.setCell ?_ ?_ _); rotate_left; focus (first | (simp; done) | (simp; omega) | omega)) | with_reducible refine Ext.tr ?_ x1 | with_reducible refine Ext.tr ?_ xc | with_reducible assumption)))
      (fail)
    all_goals
      go_wp2_with fail
      go_meet
      exact ⟨rfl, rfl, (Blk.new _ _ _).drew, (by repeat (first | with_reducible exact Ext.refl _ | with_reducible apply Ext.drew | with_reducible apply Ext.drewN | with_reducible apply Ext.alloc | ((with_reducible refine Ext.setCell ?_ ?_ _); rotate_left; focus (first | (simp; done) | (simp; omega) | omega)) | with_reducible refine Ext.tr ?_ x1 | with_reducible refine Ext.tr ?_ xc | with_reducible assumption))⟩
  obtain ⟨rfl, rfl, bl, xc⟩ := hcut
  have j9 := xc.cell k9
  have j10 := xc.cell k10
  have g10 := (HBLK.out.ext xc).frozen 10
  have l0 := (bl.cell 0).trans (show (#[.int .i64 (9), .int .i64 I, .int .i64 O, .int .i64 Z, .int .i64 T, .int .i64 P, .int .i64 C, .int .i64 H, .slice ba' bn bc] : Array Value)[0]? = some (.int .i64 (9)) from rfl)
  have l1 := (bl.cell 1).trans (show (#[.int .i64 (9), .int .i64 I, .int .i64 O, .int .i64 Z, .int .i64 T, .int .i64 P, .int .i64 C, .int .i64 H, .slice ba' bn bc] : Array Value)[1]? = some (.int .i64 I) from rfl)
  have l2 := (bl.cell 2).trans (show (#[.int .i64 (9), .int .i64 I, .int .i64 O, .int .i64 Z, .int .i64 T, .int .i64 P, .int .i64 C, .int .i64 H, .slice ba' bn bc] : Array Value)[2]? = some (.int .i64 O) from rfl)
  have zc : w.heap.size < wc.heap.size := bl.lt
  have zSc : S < wc.heap.size := by omega
  have BL := Lib.hid bl
  have XC := Lib.hid xc
  have HB := Lib.hid (HBLK.out.ext xc)
  have HR := Lib.hid (HROW.out.ext xc)
  have GX := Lib.hid ((GB.refl w S).ext xc)
  clear k0 k1 k2 k3 k4 k5 k6 k7 k8 k9 f10 k10 bl xc HROW
  obtain ⟨i0, hi0, hz0, hz1, hz2⟩ := info_parts cloneI_info
  go_wp2_with fail
  refine (image_any HB.out HR.out.1 HD.out hwin).mono ?_
  rintro e w1 (⟨hp, -⟩ | ⟨q, oa, oc, hp, rfl, x1, h1⟩)
  · rw [hI.out] at hp; cases hp
  · rw [hI.out] at hp
    cases hp
    have hs0 : 0 < s.length := by
      rcases Nat.eq_zero_or_pos s.length with h0 | h0
      · have h := hI.out
        unfold imageS at h
        rw [if_neg (by omega)] at h
        cases h
      · exact h0
    obtain ⟨b, o, rfl, ci⟩ := row_cell (HR.out.1.ext x1) hs0
    simp only [Nat.add_zero] at ci
    have hpl : p.length ≤ 1000 := by
      have h := hI.out
      unfold imageS placesS at h
      split at h
      · split at h
        · cases h; simp; omega
        · cases h
      · cases h
    have hs0' : (0 : Int) < (s.length : Int) := by omega
    have n9 := x1.cell j9
    have n10 := x1.cell j10
    have nf := (HB.out.ext x1).frozen 10
    have zz := x1.size
    have HB1 := Lib.hid (HB.out.ext x1)
    have GX1 := Lib.hid (GX.out.ext x1)
    have H1 := Lib.hid h1
    obtain ⟨a0, ha0⟩ : ∃ a0, s.getD 0 0 = a0 := ⟨_, rfl⟩
    rw [ha0] at ci
    have HA := Lib.hid ha0
    have zS1 : S < w1.heap.size := by omega
    clear j9 j10 g10 l0 l1 l2 h1 x1 ha0
    go_wp2_with (at_builtin; refine wpList_append_row (k := .i64) rfl _ _ 24 rfl w1.heap.size 3 i0 (.int .i64 0) 8 Tryd.underlying24 hi0 hz0 hz1 hz2 rfl _ 1 [.int .i64 a0] rfl (World.ownsRow_lit w1 #[.int .i64 a0] 1 (Nat.le_refl _) (by unfold maxLen; omega) rfl) _ rfl p (H1.out.ext (Ext.alloc (Ext.refl _) _)) (by unfold maxLen; omega) (by omega) (by simp) ?_)
    intro v' w2 hown hgrow
    rw [show 1 + p.length = (a0 :: p).length by simp [Nat.add_comm]] at hown
    obtain ⟨va, vc, rfl⟩ := own_form2 hown
    have hrow : ∀ k, (Value.slice (some ⟨w1.heap.size, 0, none⟩) 1 1).ownBlock = some k → w1.heap.size ≤ k := fun k hk => by simp [Value.ownBlock] at hk; omega
    have b2 := ((HB1.out.alloc (.cells #[.int .i64 a0] 3)).grown hgrow (fun e => by have := hrow _ e.symm; omega))
    have n9' := b2.cells 9 (show _ = some (.slice (some ⟨b, o, none⟩) s.length ic) from rfl)
    have n10' := b2.cells 10 (show _ = some (.slice none 0 0) from rfl)
    have nf' := b2.frozen 10
    have zs' := b2.lt
    have HB2 := Lib.hid b2
    have G2 := Lib.hid ((GX1.out.ext (Ext.alloc (Ext.refl _) (.cells #[.int .i64 a0] 3))).grown hgrow (fun k hk => by have := hrow k hk; omega))
    have OW := Lib.hid hown
    clear hown hgrow hrow b2
    go_wp2
    go_ret
    rw [HA.out]
    refine ⟨rfl, G2.out.set 10 _, va, vc, none, 0, HB2.out.set_ 10 _, RowS.of_own (xs := a0 :: p) (ownsRow_setCell_below OW.out zS1 _), ParsAt.nil _ _⟩
set_option maxHeartbeats 8000000 in
set_option maxRecDepth 100000 in
theorem does_conv_n {B S : Nat} {w : World} {I O Z T P C H : Int} {ba' ia : Option Addr} {bn bc ic : Nat} {first : Bool} {nm : Bs} {s : List Int} (h : DoesAt B w S ⟨2, I, O, Z, T, P, C, H⟩ (.slice ba' bn bc) (.slice ia s.length ic) first nm s) (hwin : WinOk ⟨2, I, O, Z, T, P, C, H⟩) (hI0 : imageS ⟨2, I, O, Z, T, P, C, H⟩ s = none) :
    Calls Tryd.prog 67 #[.pointer (some ⟨S, 0, none⟩)] w fun e w' => DoesP B w S ⟨2, I, O, Z, T, P, C, H⟩ (.slice ba' bn bc) (.slice ia s.length ic) first nm e w' none := by
  obtain ⟨hblk, hrow, hlow, hdim, hname⟩ := h
  obtain ⟨d1, d2, d3, d4⟩ := fullS_dims hdim
  have zS := hblk.lt
  have k0 := (hblk.cell 0).trans (show (stepA ⟨2, I, O, Z, T, P, C, H⟩ (.slice ba' bn bc) (.slice ia s.length ic) (.slice none 0 0) (.slice none 0 0) first (ba nm) 0 false)[0]? = some (.int .i64 2) from rfl)
  have k1 := (hblk.cell 1).trans (show (stepA ⟨2, I, O, Z, T, P, C, H⟩ (.slice ba' bn bc) (.slice ia s.length ic) (.slice none 0 0) (.slice none 0 0) first (ba nm) 0 false)[1]? = some (.int .i64 I) from rfl)
  have k2 := (hblk.cell 2).trans (show (stepA ⟨2, I, O, Z, T, P, C, H⟩ (.slice ba' bn bc) (.slice ia s.length ic) (.slice none 0 0) (.slice none 0 0) first (ba nm) 0 false)[2]? = some (.int .i64 O) from rfl)
  have k3 := (hblk.cell 3).trans (show (stepA ⟨2, I, O, Z, T, P, C, H⟩ (.slice ba' bn bc) (.slice ia s.length ic) (.slice none 0 0) (.slice none 0 0) first (ba nm) 0 false)[3]? = some (.int .i64 Z) from rfl)
  have k4 := (hblk.cell 4).trans (show (stepA ⟨2, I, O, Z, T, P, C, H⟩ (.slice ba' bn bc) (.slice ia s.length ic) (.slice none 0 0) (.slice none 0 0) first (ba nm) 0 false)[4]? = some (.int .i64 T) from rfl)
  have k5 := (hblk.cell 5).trans (show (stepA ⟨2, I, O, Z, T, P, C, H⟩ (.slice ba' bn bc) (.slice ia s.length ic) (.slice none 0 0) (.slice none 0 0) first (ba nm) 0 false)[5]? = some (.int .i64 P) from rfl)
  have k6 := (hblk.cell 6).trans (show (stepA ⟨2, I, O, Z, T, P, C, H⟩ (.slice ba' bn bc) (.slice ia s.length ic) (.slice none 0 0) (.slice none 0 0) first (ba nm) 0 false)[6]? = some (.int .i64 C) from rfl)
  have k7 := (hblk.cell 7).trans (show (stepA ⟨2, I, O, Z, T, P, C, H⟩ (.slice ba' bn bc) (.slice ia s.length ic) (.slice none 0 0) (.slice none 0 0) first (ba nm) 0 false)[7]? = some (.int .i64 H) from rfl)
  have k8 := (hblk.cell 8).trans (show (stepA ⟨2, I, O, Z, T, P, C, H⟩ (.slice ba' bn bc) (.slice ia s.length ic) (.slice none 0 0) (.slice none 0 0) first (ba nm) 0 false)[8]? = some (.slice ba' bn bc) from rfl)
  have k9 := (hblk.cell 9).trans (show (stepA ⟨2, I, O, Z, T, P, C, H⟩ (.slice ba' bn bc) (.slice ia s.length ic) (.slice none 0 0) (.slice none 0 0) first (ba nm) 0 false)[9]? = some (.slice ia s.length ic) from rfl)
  have f10 := hblk.frozen 10
  have k10 := (hblk.cell 10).trans (show (stepA ⟨2, I, O, Z, T, P, C, H⟩ (.slice ba' bn bc) (.slice ia s.length ic) (.slice none 0 0) (.slice none 0 0) first (ba nm) 0 false)[10]? = some (.slice none 0 0) from rfl)
  have HBLK := Lib.hid hblk
  have HROW := Lib.hid hrow
  have HD := Lib.hid d2
  have hI := Lib.hid hI0
  clear hI0
  clear hblk hrow hdim d2
  go_enter Tryd.func67, Tryd.ntmps67
  go_wp2_with fail
  go_cut [3, 4] (fun s3 s4 W => s3 = .pointer (some ⟨w.heap.size, 0, none⟩) ∧ s4 = .int .i64 (IntKind.i64.wrap ((s.length : Int) - 1)) ∧ Blk W w.heap.size 52 #[.int .i64 (2), .int .i64 I, .int .i64 O, .int .i64 Z, .int .i64 T, .int .i64 P, .int .i64 C, .int .i64 H, .slice ba' bn bc] ∧ Ext w W)
  case first => as_aux_lemma =>
    go_region_held3 (fun w' => w'.cell? ⟨S, 0, none⟩ = some (.int .i64 2) ∧ w'.cell? ⟨S, 1, none⟩ = some (.int .i64 I) ∧ w'.cell? ⟨S, 2, none⟩ = some (.int .i64 O) ∧ w'.cell? ⟨S, 3, none⟩ = some (.int .i64 Z) ∧ w'.cell? ⟨S, 4, none⟩ = some (.int .i64 T) ∧ w'.cell? ⟨S, 5, none⟩ = some (.int .i64 P) ∧ w'.cell? ⟨S, 6, none⟩ = some (.int .i64 C) ∧ w'.cell? ⟨S, 7, none⟩ = some (.int .i64 H) ∧ w'.cell? ⟨S, 8, none⟩ = some (.slice ba' bn bc) ∧ w'.cell? ⟨S, 9, none⟩ = some (.slice ia s.length ic) ∧ S < w'.heap.size ∧ Ext w w')
      (refine ⟨?_, ?_, ?_, ?_, ?_, ?_, ?_, ?_, ?_, ?_, ?_, ?_⟩ <;> first | (simp [go_sem, *]; done) | omega | (simp at z1; omega) | (simp at z2; omega) | (simp at z3; omega) | (simp at z4; omega) | exact (by repeat (first | with_reducible exact Ext.refl _ | with_reducible apply Ext.drew | with_reducible apply Ext.drewN | with_reducible apply Ext.alloc | ((with_reducible refine Ext.setCell ?_ ?_ _); rotate_left; focus (first | (simp; done) | (simp; omega) | omega)) | with_reducible refine Ext.tr ?_ x1 | with_reducible refine Ext.tr ?_ xc | with_reducible assumption)))
      (fail)
    all_goals
      go_wp2_with fail
      go_meet
      exact ⟨rfl, rfl, (Blk.new _ _ _).drew, (by repeat (first | with_reducible exact Ext.refl _ | with_reducible apply Ext.drew | with_reducible apply Ext.drewN | with_reducible apply Ext.alloc | ((with_reducible refine Ext.setCell ?_ ?_ _); rotate_left; focus (first | (simp; done) | (simp; omega) | omega)) | with_reducible refine Ext.tr ?_ x1 | with_reducible refine Ext.tr ?_ xc | with_reducible assumption))⟩
  obtain ⟨rfl, rfl, bl, xc⟩ := hcut
  have j9 := xc.cell k9
  have j10 := xc.cell k10
  have g10 := (HBLK.out.ext xc).frozen 10
  have l0 := (bl.cell 0).trans (show (#[.int .i64 (2), .int .i64 I, .int .i64 O, .int .i64 Z, .int .i64 T, .int .i64 P, .int .i64 C, .int .i64 H, .slice ba' bn bc] : Array Value)[0]? = some (.int .i64 (2)) from rfl)
  have l1 := (bl.cell 1).trans (show (#[.int .i64 (2), .int .i64 I, .int .i64 O, .int .i64 Z, .int .i64 T, .int .i64 P, .int .i64 C, .int .i64 H, .slice ba' bn bc] : Array Value)[1]? = some (.int .i64 I) from rfl)
  have l2 := (bl.cell 2).trans (show (#[.int .i64 (2), .int .i64 I, .int .i64 O, .int .i64 Z, .int .i64 T, .int .i64 P, .int .i64 C, .int .i64 H, .slice ba' bn bc] : Array Value)[2]? = some (.int .i64 O) from rfl)
  have zc : w.heap.size < wc.heap.size := bl.lt
  have zSc : S < wc.heap.size := by omega
  have BL := Lib.hid bl
  have XC := Lib.hid xc
  have HB := Lib.hid (HBLK.out.ext xc)
  have HR := Lib.hid (HROW.out.ext xc)
  have GX := Lib.hid ((GB.refl w S).ext xc)
  clear k0 k1 k2 k3 k4 k5 k6 k7 k8 k9 f10 k10 bl xc HROW
  go_wp2_with fail
  refine (image_any HB.out HR.out.1 HD.out hwin).mono ?_
  rintro e w1 (⟨-, rfl, x1⟩ | ⟨p, oa, oc, hp, -⟩)
  · go_wp2_with fail
    go_quiet (fail)
    go_wp2
    go_ret
    exact ⟨rfl, GX.out.ext (by repeat (first | with_reducible exact Ext.refl _ | with_reducible apply Ext.drew | with_reducible apply Ext.drewN | with_reducible apply Ext.alloc | ((with_reducible refine Ext.setCell ?_ ?_ _); rotate_left; focus (first | (simp; done) | (simp; omega) | omega)) | with_reducible refine Ext.tr ?_ x1 | with_reducible refine Ext.tr ?_ xc | with_reducible assumption)), HB.out.ext (by repeat (first | with_reducible exact Ext.refl _ | with_reducible apply Ext.drew | with_reducible apply Ext.drewN | with_reducible apply Ext.alloc | ((with_reducible refine Ext.setCell ?_ ?_ _); rotate_left; focus (first | (simp; done) | (simp; omega) | omega)) | with_reducible refine Ext.tr ?_ x1 | with_reducible refine Ext.tr ?_ xc | with_reducible assumption))⟩
  · rw [hI.out] at hp; cases hp
end Go.Proofs.YtgokenbojppnhaaDoor
