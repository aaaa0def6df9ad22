/- (*infer.step).does: a convolution. -/
import Derived.Test.YtgokenbojppnhaaDoorInfDoes0
namespace Go.Proofs.YtgokenbojppnhaaDoor
open Go.RowKit
attribute [local go_sem ↓] Go.wp_at_zero Go.wp_at_succ
/-- append of a row of numbers at a step of a region that draws. -/
theorem step_append_row {P : Program} {w : World} {k : IntKind} {ops : Array Oper} {o : Oper} {a : Act} {K : Act → World → Prop} {Q : Exit → Act → World → Prop} {E : Prop} (hgd : o.guard = none) (s x : Operand) (t : TypeId)
    (ho : o.op = .call { callee := .builtin .append, args := #[s, x], argTypes := #[t, t] })
    (base : Nat) (e : TypeId) (i : TypeInfo) (z : Value) (bytes : Nat) (ht : P.underlying t = some (.slice e)) (hi : P.info? e = some i) (hz : i.zero = some z) (hsize : i.size = 1) (hby : i.bytes = bytes) (hzs : z.cells.size = 1)
    (v : Value) (n : Nat) (xs : List Value) (hs : a.eval s = v) (hown : w.ownsRow base e 1 v n xs) (u : Value) (hx : a.eval x = u) (ys : List Int) (hu : Row k w u ys)
    (N : Nat) (hN : n + ys.length = N) (h63 : N ≤ maxLen) (hbytes : N * bytes ≤ 140737488355328) (hbase : base ≤ w.heap.size)
    (h : ∀ va vc w', w'.ownsRow base e 1 (.slice va N vc) N (xs ++ ys.map (Value.int k)) → w.grownBy w' v.ownBlock → K (a.put o.dst (.slice va N vc)) w') :
    if Region.wanted o (yielded ops a.tmps) = true then Oper.wp P o a w K Q else E := by
  subst hN
  have hw : Region.wanted o (yielded ops a.tmps) = true := by simp [Region.wanted, hgd]
  rw [if_pos hw]
  refine wp_append_row s x t ho base e i z bytes ht hi hz hsize hby hzs v n xs hs hown u hx ys hu h63 hbytes hbase (fun v' w' h2 h3 => ?_)
  obtain ⟨va, vc, rfl⟩ := own_form2 h2
  exact h va vc w' h2 h3
set_option maxHeartbeats 8000000 in
set_option maxRecDepth 100000 in
theorem does_conv_i {B S : Nat} {w : World} {I O Z T P C H : Int} {ba' ia : Option Addr} {bn bc ic : Nat} {first : Bool} {nm : Bs} {s : List Int} (h : DoesAt B w S ⟨2, I, O, Z, T, P, C, H⟩ (.slice ba' bn bc) (.slice ia s.length ic) first nm s) {p : List Int} (hwin : WinOk ⟨2, I, O, Z, T, P, C, H⟩) (hI0 : imageS ⟨2, I, O, Z, T, P, C, H⟩ s = some p) (hni : s.getD 0 0 ≠ I) :
    Calls Tryd.prog 67 #[.pointer (some ⟨S, 0, none⟩)] w fun e w' => DoesP B w S ⟨2, I, O, Z, T, P, C, H⟩ (.slice ba' bn bc) (.slice ia s.length ic) first nm e w' none := by
  obtain ⟨hblk, hrow, hlow, hdim, hname⟩ := h
  obtain ⟨d1, d2, d3, d4⟩ := fullS_dims hdim
  have zS := hblk.lt
  have k0 := (hblk.cell 0).trans (show (stepA ⟨2, I, O, Z, T, P, C, H⟩ (.slice ba' bn bc) (.slice ia s.length ic) (.slice none 0 0) (.slice none 0 0) first (ba nm) 0 false)[0]? = some (.int .i64 2) from rfl)
  have k1 := (hblk.cell 1).trans (show (stepA ⟨2, I, O, Z, T, P, C, H⟩ (.slice ba' bn bc) (.slice ia s.length ic) (.slice none 0 0) (.slice none 0 0) first (ba nm) 0 false)[1]? = some (.int .i64 I) from rfl)
  have k2 := (hblk.cell 2).trans (show (stepA ⟨2, I, O, Z, T, P, C, H⟩ (.slice ba' bn bc) (.slice ia s.length ic) (.slice none 0 0) (.slice none 0 0) first (ba nm) 0 false)[2]? = some (.int .i64 O) from rfl)
  have k3 := (hblk.cell 3).trans (show (stepA ⟨2, I, O, Z, T, P, C, H⟩ (.slice ba' bn bc) (.slice ia s.length ic) (.slice none 0 0) (.slice none 0 0) first (ba nm) 0 false)[3]? = some (.int .i64 Z) from rfl)
  have k4 := (hblk.cell 4).trans (show (stepA ⟨2, I, O, Z, T, P, C, H⟩ (.slice ba' bn bc) (.slice ia s.length ic) (.slice none 0 0) (.slice none 0 0) first (ba nm) 0 false)[4]? = some (.int .i64 T) from rfl)
  have k5 := (hblk.cell 5).trans (show (stepA ⟨2, I, O, Z, T, P, C, H⟩ (.slice ba' bn bc) (.slice ia s.length ic) (.slice none 0 0) (.slice none 0 0) first (ba nm) 0 false)[5]? = some (.int .i64 P) from rfl)
  have k6 := (hblk.cell 6).trans (show (stepA ⟨2, I, O, Z, T, P, C, H⟩ (.slice ba' bn bc) (.slice ia s.length ic) (.slice none 0 0) (.slice none 0 0) first (ba nm) 0 false)[6]? = some (.int .i64 C) from rfl)
  have k7 := (hblk.cell 7).trans (show (stepA ⟨2, I, O, Z, T, P, C, H⟩ (.slice ba' bn bc) (.slice ia s.length ic) (.slice none 0 0) (.slice none 0 0) first (ba nm) 0 false)[7]? = some (.int .i64 H) from rfl)
  have k8 := (hblk.cell 8).trans (show (stepA ⟨2, I, O, Z, T, P, C, H⟩ (.slice ba' bn bc) (.slice ia s.length ic) (.slice none 0 0) (.slice none 0 0) first (ba nm) 0 false)[8]? = some (.slice ba' bn bc) from rfl)
  have k9 := (hblk.cell 9).trans (show (stepA ⟨2, I, O, Z, T, P, C, H⟩ (.slice ba' bn bc) (.slice ia s.length ic) (.slice none 0 0) (.slice none 0 0) first (ba nm) 0 false)[9]? = some (.slice ia s.length ic) from rfl)
  have f10 := hblk.frozen 10
  have k10 := (hblk.cell 10).trans (show (stepA ⟨2, I, O, Z, T, P, C, H⟩ (.slice ba' bn bc) (.slice ia s.length ic) (.slice none 0 0) (.slice none 0 0) first (ba nm) 0 false)[10]? = some (.slice none 0 0) from rfl)
  have HBLK := Lib.hid hblk
  have HROW := Lib.hid hrow
  have HD := Lib.hid d2
  have hI := Lib.hid hI0
  clear hI0
  clear hblk hrow hdim d2
  go_enter Tryd.func67, Tryd.ntmps67
  go_wp2_with fail
  go_cut [3, 4] (fun s3 s4 W => s3 = .pointer (some ⟨w.heap.size, 0, none⟩) ∧ s4 = .int .i64 (IntKind.i64.wrap ((s.length : Int) - 1)) ∧ Blk W w.heap.size 52 #[.int .i64 (2), .int .i64 I, .int .i64 O, .int .i64 Z, .int .i64 T, .int .i64 P, .int .i64 C, .int .i64 H, .slice ba' bn bc] ∧ Ext w W)
  case first => as_aux_lemma =>
    go_region_held3 (fun w' => w'.cell? ⟨S, 0, none⟩ = some (.int .i64 2) ∧ w'.cell? ⟨S, 1, none⟩ = some (.int .i64 I) ∧ w'.cell? ⟨S, 2, none⟩ = some (.int .i64 O) ∧ w'.cell? ⟨S, 3, none⟩ = some (.int .i64 Z) ∧ w'.cell? ⟨S, 4, none⟩ = some (.int .i64 T) ∧ w'.cell? ⟨S, 5, none⟩ = some (.int .i64 P) ∧ w'.cell? ⟨S, 6, none⟩ = some (.int .i64 C) ∧ w'.cell? ⟨S, 7, none⟩ = some (.int .i64 H) ∧ w'.cell? ⟨S, 8, none⟩ = some (.slice ba' bn bc) ∧ w'.cell? ⟨S, 9, none⟩ = some (.slice ia s.length ic) ∧ S < w'.heap.size ∧ Ext w w')
      (refine ⟨?_, ?_, ?_, ?_, ?_, ?_, ?_, ?_, ?_, ?_, ?_, ?_⟩ <;> first | (simp [go_sem, *]; done) | omega | (simp at z1; omega) | (simp at z2; omega) | (simp at z3; omega) | (simp at z4; omega) | exact (by repeat (first | with_reducible exact Ext.refl _ | with_reducible apply Ext.drew | with_reducible apply Ext.drewN | with_reducible apply Ext.alloc | ((with_reducible refine Ext.setCell ?_ ?_ _); rotate_left; focus (first | (simp; done) | (simp; omega) | omega)) | with_reducible refine Ext.tr ?_ x1 | with_reducible refine Ext.tr ?_ x2 | with_reducible refine Ext.tr ?_ xc | with_reducible refine Ext.tr ?_ hx | with_reducible assumption)))
      (fail)
    all_goals
      go_wp2_with fail
      go_meet
      exact ⟨rfl, rfl, (Blk.new _ _ _).drew, (by repeat (first | with_reducible exact Ext.refl _ | with_reducible apply Ext.drew | with_reducible apply Ext.drewN | with_reducible apply Ext.alloc | ((with_reducible refine Ext.setCell ?_ ?_ _); rotate_left; focus (first | (simp; done) | (simp; omega) | omega)) | with_reducible refine Ext.tr ?_ x1 | with_reducible refine Ext.tr ?_ x2 | with_reducible refine Ext.tr ?_ xc | with_reducible refine Ext.tr ?_ hx | with_reducible assumption))⟩
  obtain ⟨rfl, rfl, bl, xc⟩ := hcut
  have j9 := xc.cell k9
  have j10 := xc.cell k10
  have g10 := (HBLK.out.ext xc).frozen 10
  have l0 := (bl.cell 0).trans (show (#[.int .i64 (2), .int .i64 I, .int .i64 O, .int .i64 Z, .int .i64 T, .int .i64 P, .int .i64 C, .int .i64 H, .slice ba' bn bc] : Array Value)[0]? = some (.int .i64 (2)) from rfl)
  have l1 := (bl.cell 1).trans (show (#[.int .i64 (2), .int .i64 I, .int .i64 O, .int .i64 Z, .int .i64 T, .int .i64 P, .int .i64 C, .int .i64 H, .slice ba' bn bc] : Array Value)[1]? = some (.int .i64 I) from rfl)
  have l2 := (bl.cell 2).trans (show (#[.int .i64 (2), .int .i64 I, .int .i64 O, .int .i64 Z, .int .i64 T, .int .i64 P, .int .i64 C, .int .i64 H, .slice ba' bn bc] : Array Value)[2]? = some (.int .i64 O) from rfl)
  have zc : w.heap.size < wc.heap.size := bl.lt
  have zSc : S < wc.heap.size := by omega
  have BL := Lib.hid bl
  have XC := Lib.hid xc
  have HB := Lib.hid (HBLK.out.ext xc)
  have HR := Lib.hid (HROW.out.ext xc)
  have GX := Lib.hid ((GB.refl w S).ext xc)
  clear k0 k1 k2 k3 k4 k5 k6 k7 k8 k9 f10 k10 bl xc HROW
  obtain ⟨i0, hi0, hz0, hz1, hz2⟩ := info_parts cloneI_info
  go_wp2_with fail
  refine (image_any HB.out HR.out.1 HD.out hwin).mono ?_
  rintro e w1 (⟨hp, -⟩ | ⟨q, oa, oc, hp, rfl, x1, h1⟩)
  · rw [hI.out] at hp; cases hp
  · rw [hI.out] at hp
    cases hp
    have hs0 : 0 < s.length := by
      rcases Nat.eq_zero_or_pos s.length with h0 | h0
      · have h := hI.out
        unfold imageS at h
        rw [if_neg (by omega)] at h
        cases h
      · exact h0
    obtain ⟨b, o, rfl, ci⟩ := row_cell (HR.out.1.ext x1) hs0
    simp only [Nat.add_zero] at ci
    have hs0' : (0 : Int) < (s.length : Int) := by omega
    have n9 := x1.cell j9
    have n10 := x1.cell j10
    have nl1 := x1.cell l1
    have nl2 := x1.cell l2
    have nf := (HB.out.ext x1).frozen 10
    have zz := x1.size
    have HB1 := Lib.hid (HB.out.ext x1)
    have BL1 := Lib.hid (BL.out.ext x1)
    have HR1 := Lib.hid (HR.out.ext x1)
    have GX1 := Lib.hid (GX.out.ext x1)
    have H1 := Lib.hid h1
    have zS1 : S < w1.heap.size := by omega
    have zA1 : w.heap.size < w1.heap.size := by omega
    have hne : w.heap.size ≠ S := by omega
    have tn : (s.getD 0 0 != I) = true := by simpa using hni
    generalize s.getD 0 0 = a0 at ci tn
    clear j9 j10 g10 l0 l1 l2 h1 x1 hni
    go_wp2_with fail
    go_quiet (fail)
    go_wp2
    go_ret
    exact ⟨rfl, GX1.out.ext (by repeat (first | with_reducible exact Ext.refl _ | with_reducible apply Ext.drew | with_reducible apply Ext.drewN | with_reducible apply Ext.alloc | ((with_reducible refine Ext.setCell ?_ ?_ _); rotate_left; focus (first | (simp; done) | (simp; omega) | omega)) | with_reducible refine Ext.tr ?_ x1 | with_reducible refine Ext.tr ?_ x2 | with_reducible refine Ext.tr ?_ xc | with_reducible refine Ext.tr ?_ hx | with_reducible assumption)), HB1.out.ext (by repeat (first | with_reducible exact Ext.refl _ | with_reducible apply Ext.drew | with_reducible apply Ext.drewN | with_reducible apply Ext.alloc | ((with_reducible refine Ext.setCell ?_ ?_ _); rotate_left; focus (first | (simp; done) | (simp; omega) | omega)) | with_reducible refine Ext.tr ?_ x1 | with_reducible refine Ext.tr ?_ x2 | with_reducible refine Ext.tr ?_ xc | with_reducible refine Ext.tr ?_ hx | with_reducible assumption))⟩
set_option maxHeartbeats 8000000 in
set_option maxRecDepth 100000 in
theorem does_conv {B S : Nat} {w : World} {I O Z T P C H : Int} {ba' ia : Option Addr} {bn bc ic : Nat} {first : Bool} {nm : Bs} {s : List Int} (h : DoesAt B w S ⟨2, I, O, Z, T, P, C, H⟩ (.slice ba' bn bc) (.slice ia s.length ic) first nm s) {p : List Int} (hwin : WinOk ⟨2, I, O, Z, T, P, C, H⟩) (hI0 : imageS ⟨2, I, O, Z, T, P, C, H⟩ s = some p) (hii : s.getD 0 0 = I) (i1 : 1 ≤ I) (i2 : I ≤ 4096) (o1 : 1 ≤ O) (o2 : O ≤ 4096) :
    Calls Tryd.prog 67 #[.pointer (some ⟨S, 0, none⟩)] w fun e w' => DoesP B w S ⟨2, I, O, Z, T, P, C, H⟩ (.slice ba' bn bc) (.slice ia s.length ic) first nm e w' (some (O :: p, [⟨nm ++ [46, 119], O :: I :: List.replicate (s.length - 1) Z, I * pr (List.replicate (s.length - 1) Z), O * pr (List.replicate (s.length - 1) Z)⟩, ⟨nm ++ [46, 98], O :: List.replicate (s.length - 1) 1, 0, 0⟩])) := by
  obtain ⟨hblk, hrow, hlow, hdim, hname⟩ := h
  obtain ⟨d1, d2, d3, d4⟩ := fullS_dims hdim
  have zS := hblk.lt
  have k0 := (hblk.cell 0).trans (show (stepA ⟨2, I, O, Z, T, P, C, H⟩ (.slice ba' bn bc) (.slice ia s.length ic) (.slice none 0 0) (.slice none 0 0) first (ba nm) 0 false)[0]? = some (.int .i64 2) from rfl)
  have k1 := (hblk.cell 1).trans (show (stepA ⟨2, I, O, Z, T, P, C, H⟩ (.slice ba' bn bc) (.slice ia s.length ic) (.slice none 0 0) (.slice none 0 0) first (ba nm) 0 false)[1]? = some (.int .i64 I) from rfl)
  have k2 := (hblk.cell 2).trans (show (stepA ⟨2, I, O, Z, T, P, C, H⟩ (.slice ba' bn bc) (.slice ia s.length ic) (.slice none 0 0) (.slice none 0 0) first (ba nm) 0 false)[2]? = some (.int .i64 O) from rfl)
  have k3 := (hblk.cell 3).trans (show (stepA ⟨2, I, O, Z, T, P, C, H⟩ (.slice ba' bn bc) (.slice ia s.length ic) (.slice none 0 0) (.slice none 0 0) first (ba nm) 0 false)[3]? = some (.int .i64 Z) from rfl)
  have k4 := (hblk.cell 4).trans (show (stepA ⟨2, I, O, Z, T, P, C, H⟩ (.slice ba' bn bc) (.slice ia s.length ic) (.slice none 0 0) (.slice none 0 0) first (ba nm) 0 false)[4]? = some (.int .i64 T) from rfl)
  have k5 := (hblk.cell 5).trans (show (stepA ⟨2, I, O, Z, T, P, C, H⟩ (.slice ba' bn bc) (.slice ia s.length ic) (.slice none 0 0) (.slice none 0 0) first (ba nm) 0 false)[5]? = some (.int .i64 P) from rfl)
  have k6 := (hblk.cell 6).trans (show (stepA ⟨2, I, O, Z, T, P, C, H⟩ (.slice ba' bn bc) (.slice ia s.length ic) (.slice none 0 0) (.slice none 0 0) first (ba nm) 0 false)[6]? = some (.int .i64 C) from rfl)
  have k7 := (hblk.cell 7).trans (show (stepA ⟨2, I, O, Z, T, P, C, H⟩ (.slice ba' bn bc) (.slice ia s.length ic) (.slice none 0 0) (.slice none 0 0) first (ba nm) 0 false)[7]? = some (.int .i64 H) from rfl)
  have k8 := (hblk.cell 8).trans (show (stepA ⟨2, I, O, Z, T, P, C, H⟩ (.slice ba' bn bc) (.slice ia s.length ic) (.slice none 0 0) (.slice none 0 0) first (ba nm) 0 false)[8]? = some (.slice ba' bn bc) from rfl)
  have k9 := (hblk.cell 9).trans (show (stepA ⟨2, I, O, Z, T, P, C, H⟩ (.slice ba' bn bc) (.slice ia s.length ic) (.slice none 0 0) (.slice none 0 0) first (ba nm) 0 false)[9]? = some (.slice ia s.length ic) from rfl)
  have f10 := hblk.frozen 10
  have k10 := (hblk.cell 10).trans (show (stepA ⟨2, I, O, Z, T, P, C, H⟩ (.slice ba' bn bc) (.slice ia s.length ic) (.slice none 0 0) (.slice none 0 0) first (ba nm) 0 false)[10]? = some (.slice none 0 0) from rfl)
  have HBLK := Lib.hid hblk
  have HROW := Lib.hid hrow
  have HD := Lib.hid d2
  have hI := Lib.hid hI0
  have hi0I := Lib.hid hii
  clear hI0 hii
  clear hblk hrow hdim d2
  go_enter Tryd.func67, Tryd.ntmps67
  go_wp2_with fail
  go_cut [3, 4] (fun s3 s4 W => s3 = .pointer (some ⟨w.heap.size, 0, none⟩) ∧ s4 = .int .i64 (IntKind.i64.wrap ((s.length : Int) - 1)) ∧ Blk W w.heap.size 52 #[.int .i64 (2), .int .i64 I, .int .i64 O, .int .i64 Z, .int .i64 T, .int .i64 P, .int .i64 C, .int .i64 H, .slice ba' bn bc] ∧ Ext w W)
  case first => as_aux_lemma =>
    go_region_held3 (fun w' => w'.cell? ⟨S, 0, none⟩ = some (.int .i64 2) ∧ w'.cell? ⟨S, 1, none⟩ = some (.int .i64 I) ∧ w'.cell? ⟨S, 2, none⟩ = some (.int .i64 O) ∧ w'.cell? ⟨S, 3, none⟩ = some (.int .i64 Z) ∧ w'.cell? ⟨S, 4, none⟩ = some (.int .i64 T) ∧ w'.cell? ⟨S, 5, none⟩ = some (.int .i64 P) ∧ w'.cell? ⟨S, 6, none⟩ = some (.int .i64 C) ∧ w'.cell? ⟨S, 7, none⟩ = some (.int .i64 H) ∧ w'.cell? ⟨S, 8, none⟩ = some (.slice ba' bn bc) ∧ w'.cell? ⟨S, 9, none⟩ = some (.slice ia s.length ic) ∧ S < w'.heap.size ∧ Ext w w')
      (refine ⟨?_, ?_, ?_, ?_, ?_, ?_, ?_, ?_, ?_, ?_, ?_, ?_⟩ <;> first | (simp [go_sem, *]; done) | omega | (simp at z1; omega) | (simp at z2; omega) | (simp at z3; omega) | (simp at z4; omega) | exact (by repeat (first | with_reducible exact Ext.refl _ | with_reducible apply Ext.drew | with_reducible apply Ext.drewN | with_reducible apply Ext.alloc | ((with_reducible refine Ext.setCell ?_ ?_ _); rotate_left; focus (first | (simp; done) | (simp; omega) | omega)) | with_reducible refine Ext.tr ?_ x1 | with_reducible refine Ext.tr ?_ x2 | with_reducible refine Ext.tr ?_ xc | with_reducible refine Ext.tr ?_ hx | with_reducible assumption)))
      (fail)
    all_goals
      go_wp2_with fail
      go_meet
      exact ⟨rfl, rfl, (Blk.new _ _ _).drew, (by repeat (first | with_reducible exact Ext.refl _ | with_reducible apply Ext.drew | with_reducible apply Ext.drewN | with_reducible apply Ext.alloc | ((with_reducible refine Ext.setCell ?_ ?_ _); rotate_left; focus (first | (simp; done) | (simp; omega) | omega)) | with_reducible refine Ext.tr ?_ x1 | with_reducible refine Ext.tr ?_ x2 | with_reducible refine Ext.tr ?_ xc | with_reducible refine Ext.tr ?_ hx | with_reducible assumption))⟩
  obtain ⟨rfl, rfl, bl, xc⟩ := hcut
  have j9 := xc.cell k9
  have j10 := xc.cell k10
  have g10 := (HBLK.out.ext xc).frozen 10
  have l0 := (bl.cell 0).trans (show (#[.int .i64 (2), .int .i64 I, .int .i64 O, .int .i64 Z, .int .i64 T, .int .i64 P, .int .i64 C, .int .i64 H, .slice ba' bn bc] : Array Value)[0]? = some (.int .i64 (2)) from rfl)
  have l1 := (bl.cell 1).trans (show (#[.int .i64 (2), .int .i64 I, .int .i64 O, .int .i64 Z, .int .i64 T, .int .i64 P, .int .i64 C, .int .i64 H, .slice ba' bn bc] : Array Value)[1]? = some (.int .i64 I) from rfl)
  have l2 := (bl.cell 2).trans (show (#[.int .i64 (2), .int .i64 I, .int .i64 O, .int .i64 Z, .int .i64 T, .int .i64 P, .int .i64 C, .int .i64 H, .slice ba' bn bc] : Array Value)[2]? = some (.int .i64 O) from rfl)
  have zc : w.heap.size < wc.heap.size := bl.lt
  have zSc : S < wc.heap.size := by omega
  have BL := Lib.hid bl
  have XC := Lib.hid xc
  have HB := Lib.hid (HBLK.out.ext xc)
  have HR := Lib.hid (HROW.out.ext xc)
  have GX := Lib.hid ((GB.refl w S).ext xc)
  clear k0 k1 k2 k3 k4 k5 k6 k7 k8 k9 f10 k10 bl xc HROW
  obtain ⟨i0, hi0, hz0, hz1, hz2⟩ := info_parts cloneI_info
  go_wp2_with fail
  refine (image_any HB.out HR.out.1 HD.out hwin).mono ?_
  rintro e w1 (⟨hp, -⟩ | ⟨q, oa, oc, hp, rfl, x1, h1⟩)
  · rw [hI.out] at hp; cases hp
  · rw [hI.out] at hp
    cases hp
    have hs0 : 0 < s.length := by
      rcases Nat.eq_zero_or_pos s.length with h0 | h0
      · have h := hI.out
        unfold imageS at h
        rw [if_neg (by omega)] at h
        cases h
      · exact h0
    obtain ⟨b, o, rfl, ci⟩ := row_cell (HR.out.1.ext x1) hs0
    simp only [Nat.add_zero] at ci
    have hs0' : (0 : Int) < (s.length : Int) := by omega
    have n9 := x1.cell j9
    have n10 := x1.cell j10
    have nl1 := x1.cell l1
    have nl2 := x1.cell l2
    have nf := (HB.out.ext x1).frozen 10
    have zz := x1.size
    have HB1 := Lib.hid (HB.out.ext x1)
    have BL1 := Lib.hid (BL.out.ext x1)
    have HR1 := Lib.hid (HR.out.ext x1)
    have GX1 := Lib.hid (GX.out.ext x1)
    have H1 := Lib.hid h1
    have zS1 : S < w1.heap.size := by omega
    have zA1 : w.heap.size < w1.heap.size := by omega
    have hne : w.heap.size ≠ S := by omega
    have hpl : p.length ≤ 1000 := by
      have h := hI.out
      unfold imageS placesS at h
      split at h
      · split at h
        · cases h; simp; omega
        · cases h
      · cases h
    have hl23 : s.length = 2 ∨ s.length = 3 := by
      have h := hI.out
      unfold imageS at h
      split at h
      · assumption
      · cases h
    rw [hi0I.out] at ci
    clear j9 j10 g10 l0 l1 l2 h1 x1
    go_wp2_with fail
    go_quiet (fail)
    rename_i nq
    obtain ⟨V1, hV1⟩ : ∃ V1, w1.drewN nq = V1 := ⟨_, rfl⟩
    have xV1 : Ext w1 V1 := by rw [← hV1]; exact (Ext.refl w1).drewN _
    rw [hV1]
    have m9 := xV1.cell n9
    have m10 := xV1.cell n10
    have mf := (HB1.out.ext xV1).frozen 10
    have ml1 := xV1.cell nl1
    have ml2 := xV1.cell nl2
    have zSV : S < V1.heap.size := Nat.lt_of_lt_of_le zS1 xV1.size
    have zAV : w.heap.size < V1.heap.size := Nat.lt_of_lt_of_le zA1 xV1.size
    have HBV := Lib.hid (HB1.out.ext xV1)
    have BLV := Lib.hid (BL1.out.ext xV1)
    have HRV := Lib.hid (HR1.out.ext xV1)
    have GV := Lib.hid (GX1.out.ext xV1)
    have HPV := Lib.hid (H1.out.ext xV1)
    clear n9 n10 nf nl1 nl2 ci zS1 zA1 HB1 BL1 HR1 GX1 H1 hV1 xV1 zz
    go_wp2_with (at_builtin; refine wpList_append_row (k := .i64) rfl _ _ 24 rfl V1.heap.size 3 i0 (.int .i64 0) 8 Tryd.underlying24 hi0 hz0 hz1 hz2 rfl _ 1 [.int .i64 O] rfl (World.ownsRow_lit V1 #[.int .i64 O] 1 (Nat.le_refl _) (by unfold maxLen; omega) rfl) _ rfl p (HPV.out.ext (Ext.alloc (Ext.refl _) _)) (by unfold maxLen; omega) (by omega) (by simp) ?_)
    intro v' w2 hown hgrow
    rw [show 1 + p.length = (O :: p).length by simp [Nat.add_comm]] at hown
    obtain ⟨va, vc, rfl⟩ := own_form2 hown
    have hrow : ∀ k, (Value.slice (some ⟨V1.heap.size, 0, none⟩) 1 1).ownBlock = some k → V1.heap.size ≤ k := fun k hk => by simp [Value.ownBlock] at hk; omega
    have b2 := ((HBV.out.alloc (.cells #[.int .i64 O] 3)).grown hgrow (fun e => by have := hrow _ e.symm; omega))
    have bl2 := ((BLV.out.alloc (.cells #[.int .i64 O] 3)).grown hgrow (fun e => by have := hrow _ e.symm; omega))
    have n9' := b2.cells 9 (show _ = some (.slice (some ⟨b, o, none⟩) s.length ic) from rfl)
    have n10' := b2.cells 10 (show _ = some (.slice none 0 0) from rfl)
    have nf' := b2.frozen 10
    have zs' := b2.lt
    have za' := bl2.lt
    have HB2 := Lib.hid b2
    have BL2 := Lib.hid bl2
    have G2 := Lib.hid ((GV.out.ext (Ext.alloc (Ext.refl _) (.cells #[.int .i64 O] 3))).grown hgrow (fun k hk => by have := hrow k hk; omega))
    have X2 : Ext V1 w2 := Ext.grown (Ext.alloc (Ext.refl V1) (.cells #[.int .i64 O] 3)) hgrow hrow
    have HR2 := Lib.hid (HRV.out.ext X2)
    have OW := Lib.hid hown
    clear hown hgrow hrow b2 bl2 X2 m9 m10 mf ml1 ml2 HBV BLV HRV GV HPV
    go_wp2_with fail
    obtain ⟨V, hV⟩ : ∃ V, w2.setCell ⟨S, 10, none⟩ (.slice va (O :: p).length vc) = V := ⟨_, rfl⟩
    have hV' : w2.setCell ⟨S, 10, none⟩ (.slice va (p.length + 1) vc) = V := hV
    rw [hV']
    have BV : Hid (Blk V S 71 (stepA ⟨2, I, O, Z, T, P, C, H⟩ (.slice ba' bn bc) (.slice (some ⟨b, o, none⟩) s.length ic) (.slice va (O :: p).length vc) (.slice none 0 0) first (ba nm) 0 false)) := Lib.hid (by rw [← hV]; exact HB2.out.set_ 10 _)
    have LV : Hid (Blk V w.heap.size 52 #[.int .i64 2, .int .i64 I, .int .i64 O, .int .i64 Z, .int .i64 T, .int .i64 P, .int .i64 C, .int .i64 H, .slice ba' bn bc]) := Lib.hid (by rw [← hV]; exact BL2.out.far (fun e => hne e) _)
    have RV : Hid (RowS B V (.slice va (O :: p).length vc) (O :: p)) := Lib.hid (by rw [← hV]; exact RowS.of_own (ownsRow_setCell_below OW.out zSV _))
    have IV : Hid (RowS B V (.slice (some ⟨b, o, none⟩) s.length ic) s) := Lib.hid (by rw [← hV]; exact HR2.out.gb ((GB.refl _ S).set 10 _) HB2.out (by decide) hlow)
    have GV : Hid (GB w V S) := Lib.hid (by rw [← hV]; exact G2.out.set 10 _)
    have q0 := LV.out.cells 0 (show _ = some (.int .i64 2) from rfl)
    have q1 := LV.out.cells 1 (show _ = some (.int .i64 I) from rfl)
    have q2 := LV.out.cells 2 (show _ = some (.int .i64 O) from rfl)
    have q3 := LV.out.cells 3 (show _ = some (.int .i64 Z) from rfl)
    have q4 := LV.out.cells 4 (show _ = some (.int .i64 T) from rfl)
    have q5 := LV.out.cells 5 (show _ = some (.int .i64 P) from rfl)
    have q6 := LV.out.cells 6 (show _ = some (.int .i64 C) from rfl)
    have q7 := LV.out.cells 7 (show _ = some (.int .i64 H) from rfl)
    have q8 := LV.out.cells 8 (show _ = some (.slice ba' bn bc) from rfl)
    have q9 := BV.out.cells 9 (show _ = some (.slice (some ⟨b, o, none⟩) s.length ic) from rfl)
    have zV := BV.out.lt
    have zL := LV.out.lt
    have KE := Lib.hid (fun (W : World) (x : Ext V W) => kernel_any (f := ⟨2, I, O, Z, T, P, C, H⟩) (ba := ba') (bn := bn) (bc := bc) (IV.out.1.ext x) hl23)
    simp only [layA] at KE
    clear hV hV' n9' n10' nf' zs' za' HB2 BL2 G2 HR2 OW
    go_cut [8] (fun s8 W => ∃ g m : Nat, m = s.length - 1 ∧ s8 = rowG g m ∧ Row .i64 W (rowG g m) (List.replicate m Z) ∧ Ext V W)
    case first => as_aux_lemma =>
      go_region_held3 (fun w' => w'.cell? ⟨w.heap.size, 0, none⟩ = some (.int .i64 2) ∧ w'.cell? ⟨w.heap.size, 1, none⟩ = some (.int .i64 I) ∧ w'.cell? ⟨w.heap.size, 2, none⟩ = some (.int .i64 O) ∧ w'.cell? ⟨w.heap.size, 3, none⟩ = some (.int .i64 Z) ∧ w'.cell? ⟨w.heap.size, 4, none⟩ = some (.int .i64 T) ∧ w'.cell? ⟨w.heap.size, 5, none⟩ = some (.int .i64 P) ∧ w'.cell? ⟨w.heap.size, 6, none⟩ = some (.int .i64 C) ∧ w'.cell? ⟨w.heap.size, 7, none⟩ = some (.int .i64 H) ∧ w'.cell? ⟨w.heap.size, 8, none⟩ = some (.slice ba' bn bc) ∧ w'.cell? ⟨S, 9, none⟩ = some (.slice (some ⟨b, o, none⟩) s.length ic) ∧ S < w'.heap.size ∧ w.heap.size < w'.heap.size ∧ Ext V w')
        (refine ⟨?_, ?_, ?_, ?_, ?_, ?_, ?_, ?_, ?_, ?_, ?_, ?_, ?_⟩ <;> first | (simp [go_sem, *]; done) | omega | (simp at z1; omega) | (simp at z2; omega) | (simp at z3; omega) | (simp at z4; omega) | exact (by repeat (first | with_reducible exact Ext.refl _ | with_reducible apply Ext.drew | with_reducible apply Ext.drewN | with_reducible apply Ext.alloc | ((with_reducible refine Ext.setCell ?_ ?_ _); rotate_left; focus (first | (simp; done) | (simp; omega) | omega)) | with_reducible refine Ext.tr ?_ x1 | with_reducible refine Ext.tr ?_ x2 | with_reducible refine Ext.tr ?_ xc | with_reducible refine Ext.tr ?_ hx | with_reducible assumption)))
        ((go_at_call 82; refine (KE.out _ (by repeat (first | with_reducible exact Ext.refl _ | with_reducible apply Ext.drew | with_reducible apply Ext.drewN | with_reducible apply Ext.alloc | ((with_reducible refine Ext.setCell ?_ ?_ _); rotate_left; focus (first | (simp; done) | (simp; omega) | omega)) | with_reducible refine Ext.tr ?_ x1 | with_reducible refine Ext.tr ?_ x2 | with_reducible refine Ext.tr ?_ xc | with_reducible refine Ext.tr ?_ hx | with_reducible assumption))).mono ?_; rintro e v1 ⟨g1, g2, g3, g4, rfl, x1, h1⟩; obtain ⟨c1, f1⟩ := x1.rules; have z1 := x1.size; (try (have k1_V_heap_size_0 := c1 (V.heap.size) 0 (by first | (simp; done) | (simp; omega) | omega); have q1_V_heap_size_0 := f1 (V.heap.size) 0 (by first | (simp; done) | (simp; omega) | omega); have k1_V_heap_size_1 := c1 (V.heap.size) 1 (by first | (simp; done) | (simp; omega) | omega); have q1_V_heap_size_1 := f1 (V.heap.size) 1 (by first | (simp; done) | (simp; omega) | omega); have k1_V_heap_size_2 := c1 (V.heap.size) 2 (by first | (simp; done) | (simp; omega) | omega); have q1_V_heap_size_2 := f1 (V.heap.size) 2 (by first | (simp; done) | (simp; omega) | omega); have k1_V_heap_size_3 := c1 (V.heap.size) 3 (by first | (simp; done) | (simp; omega) | omega); have q1_V_heap_size_3 := f1 (V.heap.size) 3 (by first | (simp; done) | (simp; omega) | omega); have z1_V_heap_size : V.heap.size < v1.heap.size := (by (try simp at z1); omega); simp [go_sem, *, -c1, -f1] at k1_V_heap_size_0 q1_V_heap_size_0 k1_V_heap_size_1 q1_V_heap_size_1 k1_V_heap_size_2 q1_V_heap_size_2 k1_V_heap_size_3 q1_V_heap_size_3)); clear KE; have H1 := Lib.hid h1; clear h1; have y1 : Ext V v1 := (by repeat (first | with_reducible exact Ext.refl _ | with_reducible apply Ext.drew | with_reducible apply Ext.drewN | with_reducible apply Ext.alloc | ((with_reducible refine Ext.setCell ?_ ?_ _); rotate_left; focus (first | (simp; done) | (simp; omega) | omega)) | with_reducible refine Ext.tr ?_ x1 | with_reducible refine Ext.tr ?_ x2 | with_reducible refine Ext.tr ?_ xc | with_reducible refine Ext.tr ?_ hx | with_reducible assumption)); have o0 := y1.cell q0; have o1 := y1.cell q1; have o2 := y1.cell q2; have o3 := y1.cell q3; have o4 := y1.cell q4; have o5 := y1.cell q5; have o6 := y1.cell q6; have o7 := y1.cell q7; have o8 := y1.cell q8; have o9 := y1.cell q9; have oz := cell_lt o9; have ox := cell_lt o0; simp only at oz ox))
      · go_wp2_with fail
        go_meet
        obtain ⟨-, -, -, r4, -⟩ := H1.out
        exact ⟨g4, _, rfl, rfl, r4.ext (by repeat (first | with_reducible exact Ext.refl _ | with_reducible apply Ext.drew | with_reducible apply Ext.drewN | with_reducible apply Ext.alloc | ((with_reducible refine Ext.setCell ?_ ?_ _); rotate_left; focus (first | (simp; done) | (simp; omega) | omega)) | with_reducible refine Ext.tr ?_ x1 | with_reducible refine Ext.tr ?_ x2 | with_reducible refine Ext.tr ?_ xc | with_reducible refine Ext.tr ?_ hx | with_reducible assumption)), (by repeat (first | with_reducible exact Ext.refl _ | with_reducible apply Ext.drew | with_reducible apply Ext.drewN | with_reducible apply Ext.alloc | ((with_reducible refine Ext.setCell ?_ ?_ _); rotate_left; focus (first | (simp; done) | (simp; omega) | omega)) | with_reducible refine Ext.tr ?_ x1 | with_reducible refine Ext.tr ?_ x2 | with_reducible refine Ext.tr ?_ xc | with_reducible refine Ext.tr ?_ hx | with_reducible assumption))⟩
      · go_wp2_with fail
        go_meet
        obtain ⟨-, -, -, r4, -, -, -, b4⟩ := H1.out
        simp at b4
        have n4 : g4 ≠ V.heap.size := by omega
        exact ⟨g4, _, rfl, rfl, row_far (row_far (row_far (row_far r4 n4) n4) n4) n4, (by repeat (first | with_reducible exact Ext.refl _ | with_reducible apply Ext.drew | with_reducible apply Ext.drewN | with_reducible apply Ext.alloc | ((with_reducible refine Ext.setCell ?_ ?_ _); rotate_left; focus (first | (simp; done) | (simp; omega) | omega)) | with_reducible refine Ext.tr ?_ x1 | with_reducible refine Ext.tr ?_ x2 | with_reducible refine Ext.tr ?_ xc | with_reducible refine Ext.tr ?_ hx | with_reducible assumption))⟩
    obtain ⟨g, m, hm, rfl, rk, xk⟩ := hcut
    obtain ⟨U, rfl⟩ : ∃ U : World, U = wc := ⟨_, rfl⟩
    have m1 : m ≤ 2 := by omega
    have HM := Lib.hid hm
    have DZ : Dims (List.replicate m Z) := ⟨by simp; omega, fun d hd => by rw [(List.mem_replicate.1 hd).2]; exact ⟨hwin.z0, hwin.z1⟩⟩
    have QB := pr_bd m (List.replicate m Z) (by simp) DZ.2
    obtain ⟨Q, hQ⟩ : ∃ Q, pr (List.replicate m Z) = Q := ⟨_, rfl⟩
    rw [hQ] at QB
    have Qle : Q ≤ 16777216 := by
      rcases (show m = 0 ∨ m = 1 ∨ m = 2 by omega) with rfl | rfl | rfl <;> (have := QB.2; simp at this; omega)
    have KS := Lib.hid (fun (U' : World) (x : Ext U U') => size_any (rk.ext x) DZ)
    rw [hQ] at KS
    have HQ := Lib.hid hQ
    have iq1 : 0 ≤ I * Q := Int.mul_nonneg (by omega) (by omega)
    have iq2 : I * Q ≤ 4096 * 16777216 := Int.mul_le_mul i2 Qle (by omega) (by omega)
    have oq1 : 0 ≤ O * Q := Int.mul_nonneg (by omega) (by omega)
    have oq2 : O * Q ≤ 4096 * 16777216 := Int.mul_le_mul o2 Qle (by omega) (by omega)
    have wi : IntKind.i64.wrap (I * Q) = I * Q := by rw [IntKind.wrap_i64]; omega
    have wo : IntKind.i64.wrap (O * Q) = O * Q := by rw [IntKind.wrap_i64]; omega
    have c1 := xk.cell q1
    have c2 := xk.cell q2
    have zSw : S < U.heap.size := Nat.lt_of_lt_of_le zV xk.size
    have zAw : w.heap.size < U.heap.size := Nat.lt_of_lt_of_le zL xk.size
    have BW := Lib.hid (BV.out.ext xk)
    have LW := Lib.hid (LV.out.ext xk)
    have RW := Lib.hid (RV.out.ext xk)
    have IW := Lib.hid (IV.out.ext xk)
    have GW := Lib.hid (GV.out.ext xk)
    have RK := Lib.hid rk
    have SA := Lib.hid (fun (W : World) (sv : Value) (hb : Blk W S 71 (stepA ⟨2, I, O, Z, T, P, C, H⟩ (.slice ba' bn bc) (.slice (some ⟨b, o, none⟩) s.length ic) (.slice va (O :: p).length vc) (.slice none 0 0) first (ba nm) 0 false)) (hz : U.heap.size ≤ W.heap.size) (hsv : W.ownsRow U.heap.size 3 1 sv (O :: I :: List.replicate m Z).length ((O :: I :: List.replicate m Z).map (Value.int .i64))) => sparam_any (l1 := [119]) (A1 := ⟨#[119]⟩) (fi := I * Q) (fo := O * Q) hb (ParsAt.nil U.heap.size W) hz zSw rfl (by simp) hname (by simp) hsv)
    clear q0 q1 q2 q3 q4 q5 q6 q7 q8 q9 hm hQ rk xk BV LV RV IV GV KE zV zL iq1 iq2 oq1 oq2 QB Qle DZ
    go_wp2_with fail
    go_cut [] (fun W => ∃ pa pc, Blk W S 71 (stepA ⟨2, I, O, Z, T, P, C, H⟩ (.slice ba' bn bc) (.slice (some ⟨b, o, none⟩) s.length ic) (.slice va (O :: p).length vc) (.slice pa 1 pc) first (ba nm) 0 false) ∧ ParsAt U.heap.size W (.slice pa 1 pc) [⟨nm ++ [46, 119], O :: I :: List.replicate m Z, I * Q, O * Q⟩] ∧ Chg U.heap.size S U W)
    case first => as_aux_lemma =>
      go_region_held3 (fun w' => w'.cell? ⟨w.heap.size, 1, none⟩ = some (.int .i64 I) ∧ w'.cell? ⟨w.heap.size, 2, none⟩ = some (.int .i64 O) ∧ S < w'.heap.size ∧ w.heap.size < w'.heap.size)
        (refine ⟨?_, ?_, ?_, ?_⟩ <;> first | (simp [go_sem, *]; done) | omega | (simp at z1; omega) | (simp at z2; omega) | (simp at z3; omega) | (simp at z4; omega) | exact (by repeat (first | with_reducible exact Ext.refl _ | with_reducible apply Ext.drew | with_reducible apply Ext.drewN | with_reducible apply Ext.alloc | ((with_reducible refine Ext.setCell ?_ ?_ _); rotate_left; focus (first | (simp; done) | (simp; omega) | omega)) | with_reducible refine Ext.tr ?_ x1 | with_reducible refine Ext.tr ?_ x2 | with_reducible refine Ext.tr ?_ xc | with_reducible refine Ext.tr ?_ hx | with_reducible assumption)))
        (first
          | (go_at_call 83; refine (KS.out _ (by repeat (first | with_reducible exact Ext.refl _ | with_reducible apply Ext.drew | with_reducible apply Ext.drewN | with_reducible apply Ext.alloc | ((with_reducible refine Ext.setCell ?_ ?_ _); rotate_left; focus (first | (simp; done) | (simp; omega) | omega)) | with_reducible refine Ext.tr ?_ x1 | with_reducible refine Ext.tr ?_ x2 | with_reducible refine Ext.tr ?_ xc | with_reducible refine Ext.tr ?_ hx | with_reducible assumption))).mono ?_; rintro e w' ⟨rfl, rfl⟩)
          | ((refine step_append_row (k := .i64) rfl (.tmp 142) (.tmp 143) 24 rfl U.heap.size 3 i0 (.int .i64 0) 8 Tryd.underlying24 hi0 hz0 hz1 hz2 rfl (rowG U.heap.size 2) 2 [.int .i64 O, .int .i64 I] (by simp [Act.eval]) (World.ownsRow_lit U #[.int .i64 O, .int .i64 I] 2 (Nat.le_refl _) (by unfold maxLen; omega) rfl) (rowG g m) (by simp [Act.eval]) (List.replicate m Z) (RK.out.ext (by repeat (first | with_reducible exact Ext.refl _ | with_reducible apply Ext.drew | with_reducible apply Ext.drewN | with_reducible apply Ext.alloc | ((with_reducible refine Ext.setCell ?_ ?_ _); rotate_left; focus (first | (simp; done) | (simp; omega) | omega)) | with_reducible refine Ext.tr ?_ x1 | with_reducible refine Ext.tr ?_ x2 | with_reducible refine Ext.tr ?_ xc | with_reducible refine Ext.tr ?_ hx | with_reducible assumption))) (m + 2) (by simp; omega) (by unfold maxLen; omega) (by omega) (by simp) ?_; intro va2 vc2 w1 hown1 hgrow1; have x1 : Ext U w1 := Ext.grown (show Ext U _ from (Ext.alloc (Ext.refl _) _)) hgrow1 (fun k hk => by simp [Value.ownBlock] at hk; omega); have d1 := x1.cell c1; have d2 := x1.cell c2; have dz := cell_lt d1; have dy : S < w1.heap.size := Nat.lt_of_lt_of_le zSw x1.size; simp only at dz))
          | ((refine step_append_row (k := .i64) rfl (.tmp 142) (.tmp 143) 24 rfl U.heap.size 3 i0 (.int .i64 0) 8 Tryd.underlying24 hi0 hz0 hz1 hz2 rfl (rowG U.heap.size 2) 2 [.int .i64 O, .int .i64 I] (by simp [Act.eval]) ((World.ownsRow_lit U #[.int .i64 O, .int .i64 I] 2 (Nat.le_refl _) (by unfold maxLen; omega) rfl).drew) (rowG g m) (by simp [Act.eval]) (List.replicate m Z) (RK.out.ext (by repeat (first | with_reducible exact Ext.refl _ | with_reducible apply Ext.drew | with_reducible apply Ext.drewN | with_reducible apply Ext.alloc | ((with_reducible refine Ext.setCell ?_ ?_ _); rotate_left; focus (first | (simp; done) | (simp; omega) | omega)) | with_reducible refine Ext.tr ?_ x1 | with_reducible refine Ext.tr ?_ x2 | with_reducible refine Ext.tr ?_ xc | with_reducible refine Ext.tr ?_ hx | with_reducible assumption))) (m + 2) (by simp; omega) (by unfold maxLen; omega) (by omega) (by simp) ?_; intro va2 vc2 w1 hown1 hgrow1; have x1 : Ext U w1 := Ext.grown (show Ext U _ from (Ext.drew (Ext.alloc (Ext.refl _) _))) hgrow1 (fun k hk => by simp [Value.ownBlock] at hk; omega); have d1 := x1.cell c1; have d2 := x1.cell c2; have dz := cell_lt d1; have dy : S < w1.heap.size := Nat.lt_of_lt_of_le zSw x1.size; simp only at dz))
          | (go_at_call 80; refine (SA.out _ _ (BW.out.ext x1) x1.size (by simpa using hown1)).mono ?_; rintro e w2 ⟨pa, pc, rfl, b2, p2, h2⟩; have d3 := h2.cell d1 (by simpa using zAw) hne; have d4 := h2.cell d2 (by simpa using zAw) hne; have dv := cell_lt d3; have du := b2.lt; simp only at dv))
      all_goals
        go_wp2_with fail
        go_meet
        exact ⟨pa, pc, b2, by simpa using p2, (Chg.ext x1 (Nat.le_refl _)).trans h2⟩
    obtain ⟨pa, pc, ub, up, uc⟩ := hcut
    have c2' := uc.cell c2 (by simpa using zAw) hne
    have n9' := ub.cells 9 (show _ = some (.slice (some ⟨b, o, none⟩) s.length ic) from rfl)
    have zUw : U.heap.size ≤ wc.heap.size := uc.size
    have zSW : S < wc.heap.size := by omega
    have zAW : w.heap.size < wc.heap.size := by omega
    have UB := Lib.hid ub
    have UP := Lib.hid up
    have UC := Lib.hid uc
    have IW' := Lib.hid (IW.out.chg uc (by omega) hlow)
    have SQ := Lib.hid (fun (W : World) (x : Ext wc W) => square_any (IW'.out.1.ext x) hl23 1)
    rw [← HM.out] at SQ
    have SB := Lib.hid (fun (W : World) (sv : Value) (hb : Blk W S 71 (stepA ⟨2, I, O, Z, T, P, C, H⟩ (.slice ba' bn bc) (.slice (some ⟨b, o, none⟩) s.length ic) (.slice va (O :: p).length vc) (.slice pa 1 pc) first (ba nm) 0 false)) (hp : ParsAt U.heap.size W (.slice pa 1 pc) [⟨nm ++ [46, 119], O :: I :: List.replicate m Z, I * Q, O * Q⟩]) (hz : U.heap.size ≤ W.heap.size) (hsv : W.ownsRow U.heap.size 3 1 sv (O :: List.replicate m 1).length ((O :: List.replicate m 1).map (Value.int .i64))) => sparam_any (l1 := [98]) (A1 := ⟨#[98]⟩) (fi := 0) (fo := 0) hb hp hz zSw rfl (by simp) hname (by simp) hsv)
    clear ub up uc SA KS wi wo c1 c2
    go_wp2_with fail
    go_region_held3 (fun w' => w'.cell? ⟨w.heap.size, 2, none⟩ = some (.int .i64 O) ∧ w'.cell? ⟨S, 9, none⟩ = some (.slice (some ⟨b, o, none⟩) s.length ic) ∧ S < w'.heap.size ∧ w.heap.size < w'.heap.size)
      (refine ⟨?_, ?_, ?_, ?_⟩ <;> first | (simp [go_sem, *]; done) | omega | (simp at z1; omega) | (simp at z2; omega) | (simp at z3; omega) | (simp at z4; omega) | exact (by repeat (first | with_reducible exact Ext.refl _ | with_reducible apply Ext.drew | with_reducible apply Ext.drewN | with_reducible apply Ext.alloc | ((with_reducible refine Ext.setCell ?_ ?_ _); rotate_left; focus (first | (simp; done) | (simp; omega) | omega)) | with_reducible refine Ext.tr ?_ x1 | with_reducible refine Ext.tr ?_ x2 | with_reducible refine Ext.tr ?_ xc | with_reducible refine Ext.tr ?_ hx | with_reducible assumption)))
      (first
        | (go_at_call 84; refine (SQ.out _ (by repeat (first | with_reducible exact Ext.refl _ | with_reducible apply Ext.drew | with_reducible apply Ext.drewN | with_reducible apply Ext.alloc | ((with_reducible refine Ext.setCell ?_ ?_ _); rotate_left; focus (first | (simp; done) | (simp; omega) | omega)) | with_reducible refine Ext.tr ?_ x1 | with_reducible refine Ext.tr ?_ x2 | with_reducible refine Ext.tr ?_ xc | with_reducible refine Ext.tr ?_ hx | with_reducible assumption))).mono ?_; rintro e v1 ⟨g1, rfl, x1, h1⟩; obtain ⟨c1, f1⟩ := x1.rules; have z1 := x1.size; (try (have k1_wc_heap_size_0 := c1 (wc.heap.size) 0 (by first | (simp; done) | (simp; omega) | omega); have q1_wc_heap_size_0 := f1 (wc.heap.size) 0 (by first | (simp; done) | (simp; omega) | omega); have z1_wc_heap_size : wc.heap.size < v1.heap.size := (by (try simp at z1); omega); simp [go_sem, *, -c1, -f1] at k1_wc_heap_size_0 q1_wc_heap_size_0)); clear SQ; have RQ := Lib.hid h1.1; clear h1; have y1 : Ext wc v1 := (by repeat (first | with_reducible exact Ext.refl _ | with_reducible apply Ext.drew | with_reducible apply Ext.drewN | with_reducible apply Ext.alloc | ((with_reducible refine Ext.setCell ?_ ?_ _); rotate_left; focus (first | (simp; done) | (simp; omega) | omega)) | with_reducible refine Ext.tr ?_ x1 | with_reducible refine Ext.tr ?_ x2 | with_reducible refine Ext.tr ?_ xc | with_reducible refine Ext.tr ?_ hx | with_reducible assumption)); have d2 := y1.cell c2'; have d9 := y1.cell n9'; have dz := cell_lt d2; have dy := cell_lt d9; simp only at dz dy; have zx := y1.size)
        | ((refine step_append_row (k := .i64) rfl (.tmp 149) (.tmp 154) 24 rfl wc.heap.size 3 i0 (.int .i64 0) 8 Tryd.underlying24 hi0 hz0 hz1 hz2 rfl (rowG v1.heap.size 1) 1 [.int .i64 O] (by simp [Act.eval]) (own_base (World.ownsRow_lit v1 #[.int .i64 O] 1 (Nat.le_refl _) (by unfold maxLen; omega) rfl) zx) (rowG g1 m) (by simp [Act.eval]) (List.replicate m 1) (RQ.out.ext (by repeat (first | with_reducible exact Ext.refl _ | with_reducible apply Ext.drew | with_reducible apply Ext.drewN | with_reducible apply Ext.alloc | ((with_reducible refine Ext.setCell ?_ ?_ _); rotate_left; focus (first | (simp; done) | (simp; omega) | omega)) | with_reducible refine Ext.tr ?_ x1 | with_reducible refine Ext.tr ?_ x2 | with_reducible refine Ext.tr ?_ xc | with_reducible refine Ext.tr ?_ hx | with_reducible assumption))) (m + 1) (by simp; omega) (by unfold maxLen; omega) (by omega) (by simp; omega) ?_; intro va2 vc2 w1 hown1 hgrow1; have x2 : Ext wc w1 := Ext.grown (show Ext wc _ from (Ext.alloc y1 _)) hgrow1 (fun k hk => by simp [Value.ownBlock] at hk; omega); have e2 := x2.cell c2'; have e9 := x2.cell n9'; have ez := cell_lt e2; have ey := cell_lt e9; simp only at ez ey))
        | ((refine step_append_row (k := .i64) rfl (.tmp 149) (.tmp 154) 24 rfl wc.heap.size 3 i0 (.int .i64 0) 8 Tryd.underlying24 hi0 hz0 hz1 hz2 rfl (rowG wc.heap.size 1) 1 [.int .i64 O] (by simp [Act.eval]) (own_old (World.ownsRow_lit wc #[.int .i64 O] 1 (Nat.le_refl _) (by unfold maxLen; omega) rfl) (show Ext (wc.alloc (.cells #[.int .i64 O] 3)) v1 from (by repeat (first | with_reducible exact Ext.refl _ | with_reducible apply Ext.drew | with_reducible apply Ext.drewN | with_reducible apply Ext.alloc | ((with_reducible refine Ext.setCell ?_ ?_ _); rotate_left; focus (first | (simp; done) | (simp; omega) | omega)) | with_reducible refine Ext.tr ?_ x1 | with_reducible refine Ext.tr ?_ x2 | with_reducible refine Ext.tr ?_ xc | with_reducible refine Ext.tr ?_ hx | with_reducible assumption)))) (rowG g1 m) (by simp [Act.eval]) (List.replicate m 1) (RQ.out.ext (by repeat (first | with_reducible exact Ext.refl _ | with_reducible apply Ext.drew | with_reducible apply Ext.drewN | with_reducible apply Ext.alloc | ((with_reducible refine Ext.setCell ?_ ?_ _); rotate_left; focus (first | (simp; done) | (simp; omega) | omega)) | with_reducible refine Ext.tr ?_ x1 | with_reducible refine Ext.tr ?_ x2 | with_reducible refine Ext.tr ?_ xc | with_reducible refine Ext.tr ?_ hx | with_reducible assumption))) (m + 1) (by simp; omega) (by unfold maxLen; omega) (by omega) (by omega) ?_; intro va2 vc2 w1 hown1 hgrow1; have x2 : Ext wc w1 := Ext.grown y1 hgrow1 (fun k hk => by simp [Value.ownBlock] at hk; omega); have e2 := x2.cell c2'; have e9 := x2.cell n9'; have ez := cell_lt e2; have ey := cell_lt e9; simp only at ez ey))
        | (go_at_call 80; refine (SB.out _ _ (UB.out.ext x2) (UP.out.ext x2) (Nat.le_trans zUw x2.size) (by simpa using own_base hown1 zUw)).mono ?_; rintro e w2 ⟨pa2, pc2, rfl, b2, p2, h2⟩; have d3 := h2.cell e2 (by simpa using zAw) hne; have d4 := b2.cells 9 (show _ = some (.slice (some ⟨b, o, none⟩) s.length ic) from rfl); have dv := cell_lt d3; have du := b2.lt; simp only at dv))
    all_goals
      have CC := (Chg.ext (S := S) x2 zUw).trans h2
      have TB := Lib.hid b2
      have TP := Lib.hid p2
      have G3 := Lib.hid (Chg.gb (Chg.gb GW.out (UC.out.low (by omega))) (CC.low (by omega)))
      have R3 := Lib.hid ((RW.out.chg UC.out (by omega) hlow).chg CC (by omega) hlow)
      clear b2 p2 h2 CC
      go_wp2
      go_ret
      rw [← HM.out, HQ.out]
      exact ⟨rfl, G3.out, va, vc, pa2, pc2, TB.out, R3.out, by simpa using TP.out.base (by omega)⟩
end Go.Proofs.YtgokenbojppnhaaDoor
