/- Layer 27: the law's own walk (InferResiduals). -/
import Derived.Test.YtgokenbojppnhaaDoorInfNames
import Derived.BigQuiet
namespace Go.Proofs.YtgokenbojppnhaaDoor
open Go.RowKit
attribute [local go_sem ↓] Go.wp_at_zero Go.wp_at_succ
def DefsAtL (w : World) (b o len : Nat) : Prop := ∀ k, k < len → ∃ n d iv lv, w.cell? ⟨b, o + k * 3, none⟩ = some iv ∧ w.cell? ⟨b, o + k * 3 + 1, none⟩ = some lv ∧ w.cell? ⟨b, o + k * 3 + 2, none⟩ = some (.int .i64 d.loss) ∧ DefAt (fun b => b < w.heap.size) n w (.agg #[iv, lv, .int .i64 d.loss]) d
theorem heads_of {d : DefL} : d.layers = [] ∨ ∃ f bd ls, d.layers = .mk f bd :: ls := by
  cases d.layers with
  | nil => exact .inl rfl
  | cons l ls => obtain ⟨f, bd⟩ := l; exact .inr ⟨f, bd, ls, rfl⟩
theorem rowof_def {A : Nat → Prop} {n : Nat} {w : World} {a1 a2 : Option Addr} {m1 c1 m2 c2 : Nat} {ls : Int} {d : DefL} (h : DefAt A n w (.agg #[.slice a1 m1 c1, .slice a2 m2 c2, .int .i64 ls]) d) : Row .i64 w (.slice a1 m1 c1) d.input := by
  obtain ⟨_, _, _, _, e, hi, -⟩ := h.is
  injection e with e
  injection e with e
  injection e with e1 e
  rw [e1]; exact hi
set_option maxHeartbeats 100000000 in
set_option maxRecDepth 100000 in
theorem resids_walk (b o len cap : Nat) (w : World) (_hl : len ≤ 9223372036854775807) (hT : DefsAtL w b o len) :
    Calls Tryd.prog 5 #[.slice (some ⟨b, o, none⟩) len cap] w fun e w' => e = .returned (.bool true) ∧ Ext w w' := by
  have HT := Lib.hid hT
  clear hT
  go_enter Tryd.func5, Tryd.ntmps5
  go_wp2_with fail
  go_loopw [3] (fun i wr => ∃ k : Nat, k ≤ len ∧ i = .int .i64 k ∧ Ext w wr) (fun i _ => len - (intOf i).toNat)
  case atStart => exact ⟨0, Nat.zero_le _, rfl, Ext.refl _⟩
  case round =>
    obtain ⟨k, hk, rfl, hext⟩ := hrel
    by_cases hlt : k < len ∧ k < 6
    · obtain ⟨h1, h2⟩ := hlt
      have h1z : (k : Int) < (len : Int) := by omega
      have h2z : (k : Int) < 6 := by omega
      obtain ⟨n, d, iv, lv, c0, c1, c2, D0⟩ := HT.out k h1
      obtain ⟨a1, cc1, a2, cc2, e, hi, hly⟩ := D0.is
      obtain ⟨rfl, rfl⟩ : iv = .slice a1 d.input.length cc1 ∧ lv = .slice a2 d.layers.length cc2 := by injection e with e; injection e with e; injection e with e1 e; injection e with e2 e; exact ⟨e1, e2⟩
      replace c0 := hext.cell c0
      replace c1 := hext.cell c1
      replace c2 := hext.cell c2
      have z0 := cell_lt c0
      simp only at z0
      have DA := Lib.hid (D0.ext hext)
      have HV := Lib.hid (fun u (x : Ext wr u) => heavy_any (DA.out.ext x))
      have XWO := Lib.hid hext
      have HROW := Lib.hid (hi.ext hext)
      have HLY := Lib.hid (hly.ext hext)
      clear e hi hly D0 HT
      go_upto_region 5 with (fail)
      go_cut [49] (fun s49 wx => Ext wr wx ∧ (s49 = .bool true ∨ (s49 = .bool false ∧ goodD d = true ∧ NoEmb d.layers ∧ Blk wx wr.heap.size 27 #[.slice a1 d.input.length cc1, .slice a2 d.layers.length cc2, .int .i64 d.loss])))
      case first => as_aux_lemma =>
        cases hh : heavyS d with
        | true =>
          rw [hh] at HV
          clear hh
          go_wp2_with fail
          refine (HV.out _ (by repeat (first | with_reducible exact Ext.refl _ | with_reducible apply Ext.drew | with_reducible apply Ext.drewN | with_reducible apply Ext.alloc | ((with_reducible refine Ext.setCell ?_ ?_ _); rotate_left; focus (first | (simp; done) | (simp; omega) | omega)) | with_reducible refine Ext.tr ?_ x1 | with_reducible refine Ext.tr ?_ x2 | with_reducible refine Ext.tr ?_ x3 | with_reducible refine Ext.tr ?_ x4 | with_reducible refine Ext.tr ?_ x5 | with_reducible refine Ext.tr ?_ x6 | with_reducible refine Ext.tr ?_ x9 | with_reducible refine Ext.tr ?_ xa | with_reducible refine Ext.tr ?_ xb | with_reducible refine Ext.tr ?_ xc | with_reducible refine Ext.tr ?_ xd | with_reducible refine Ext.tr ?_ hx | with_reducible refine Ext.tr ?_ hext | with_reducible assumption))).mono ?_
          rintro e v1 ⟨rfl, x1⟩
          clear HV c0 c1 c2
          go_wp2_with fail
          go_meet
          exact ⟨(by repeat (first | with_reducible exact Ext.refl _ | with_reducible apply Ext.drew | with_reducible apply Ext.drewN | with_reducible apply Ext.alloc | ((with_reducible refine Ext.setCell ?_ ?_ _); rotate_left; focus (first | (simp; done) | (simp; omega) | omega)) | with_reducible refine Ext.tr ?_ x1 | with_reducible refine Ext.tr ?_ x2 | with_reducible refine Ext.tr ?_ x3 | with_reducible refine Ext.tr ?_ x4 | with_reducible refine Ext.tr ?_ x5 | with_reducible refine Ext.tr ?_ x6 | with_reducible refine Ext.tr ?_ x9 | with_reducible refine Ext.tr ?_ xa | with_reducible refine Ext.tr ?_ xb | with_reducible refine Ext.tr ?_ xc | with_reducible refine Ext.tr ?_ xd | with_reducible refine Ext.tr ?_ hx | with_reducible refine Ext.tr ?_ hext | with_reducible assumption)), .inl rfl⟩
        | false =>
          rw [hh] at HV
          have hct := heavy_count hh
          have MY := Lib.hid (fun u (x : Ext wr u) => mayR_any (DA.out.ext x) hct)
          clear hh hct
          go_wp2_with fail
          refine (HV.out _ (by repeat (first | with_reducible exact Ext.refl _ | with_reducible apply Ext.drew | with_reducible apply Ext.drewN | with_reducible apply Ext.alloc | ((with_reducible refine Ext.setCell ?_ ?_ _); rotate_left; focus (first | (simp; done) | (simp; omega) | omega)) | with_reducible refine Ext.tr ?_ x1 | with_reducible refine Ext.tr ?_ x2 | with_reducible refine Ext.tr ?_ x3 | with_reducible refine Ext.tr ?_ x4 | with_reducible refine Ext.tr ?_ x5 | with_reducible refine Ext.tr ?_ x6 | with_reducible refine Ext.tr ?_ x9 | with_reducible refine Ext.tr ?_ xa | with_reducible refine Ext.tr ?_ xb | with_reducible refine Ext.tr ?_ xc | with_reducible refine Ext.tr ?_ xd | with_reducible refine Ext.tr ?_ hx | with_reducible refine Ext.tr ?_ hext | with_reducible assumption))).mono ?_
          rintro e v1 ⟨rfl, x1⟩
          obtain ⟨k0, k1, k2, zk⟩ := ((Blk.new wr 27 #[.slice a1 d.input.length cc1, .slice a2 d.layers.length cc2, .int .i64 d.loss]).ext x1).three'
          have B1 := (Blk.new wr 27 #[.slice a1 d.input.length cc1, .slice a2 d.layers.length cc2, .int .i64 d.loss]).ext x1
          have X1 : Ext wr v1 := (by repeat (first | with_reducible exact Ext.refl _ | with_reducible apply Ext.drew | with_reducible apply Ext.drewN | with_reducible apply Ext.alloc | ((with_reducible refine Ext.setCell ?_ ?_ _); rotate_left; focus (first | (simp; done) | (simp; omega) | omega)) | with_reducible refine Ext.tr ?_ x1 | with_reducible refine Ext.tr ?_ x2 | with_reducible refine Ext.tr ?_ x3 | with_reducible refine Ext.tr ?_ x4 | with_reducible refine Ext.tr ?_ x5 | with_reducible refine Ext.tr ?_ x6 | with_reducible refine Ext.tr ?_ x9 | with_reducible refine Ext.tr ?_ xa | with_reducible refine Ext.tr ?_ xb | with_reducible refine Ext.tr ?_ xc | with_reducible refine Ext.tr ?_ xd | with_reducible refine Ext.tr ?_ hx | with_reducible refine Ext.tr ?_ hext | with_reducible assumption))
          clear HV c0 c1 c2 z0 x1
          go_wp2_with fail
          refine (MY.out _ X1).mono ?_
          rintro e v2 ⟨rfl, x2⟩
          clear MY
          have B2 := B1.ext x2
          replace k0 := x2.cell k0
          replace k1 := x2.cell k1
          replace k2 := x2.cell k2
          replace zk := cell_lt k0
          simp only at zk
          have X2 := X1.tr x2
          have HB2 := Lib.hid B2
          clear x2 X1 B1 B2
          cases hg : goodD d with
          | false =>
            clear hg
            go_wp2_with fail
            go_meet
            exact ⟨X2, .inl rfl⟩
          | true =>
            have HG := Lib.hid hg
            clear hg
            rcases heads_of (d := d) with h0 | ⟨f, bd, ls, hly⟩
            · have hne : Hid (NoEmb d.layers) := Lib.hid (fun f bd ls e => by rw [h0] at e; cases e)
              have hpos : ¬ (0 : Int) < (d.layers.length : Int) := by rw [h0]; simp
              have HH := Lib.hid h0
              clear h0
              go_wp2_with fail
              go_meet
              exact ⟨X2, .inr ⟨rfl, HG.out, hne.out, HB2.out⟩⟩
            · have hl1 := HLY.out.ext X2
              obtain ⟨m, rfl⟩ : ∃ m, n = m + 1 := by
                cases n with
                | zero => have := hl1.1; rw [hly] at this; cases this
                | succ m => exact ⟨m, rfl⟩
              obtain ⟨_, _, e1, -, q1⟩ := hl1
              cases e1
              obtain ⟨b2, o2, rfl, -, r1⟩ := q1 (by rw [hly]; simp)
              obtain ⟨bv, -, t1, -⟩ := r1 0 (by rw [hly]; simp)
              have y0 := t1 0 (by omega)
              have hk0 : (d.layers[0]'(by rw [hly]; simp)).f = f := by simp only [hly]; rfl
              obtain ⟨K, I, O, Z, T, P, C, H⟩ := f
              have y1 : v2.cell? ⟨b2, o2, none⟩ = some (.int .i64 K) := by
                rw [hk0] at y0; simpa [layA] using y0
              have hpos : (0 : Int) < (d.layers.length : Int) := by rw [hly]; simp
              have hposn : 0 < d.layers.length := by omega
              have zb := cell_lt y1
              simp only at zb
              have HH := Lib.hid hly
              clear y0 hly hk0 t1 r1 q1
              by_cases h11 : K = 11
              · have t11 : (K == 11) = true := by simp [h11]
                clear h11
                go_wp2_with fail
                go_meet
                exact ⟨X2, .inl rfl⟩
              · have t11 : (K == 11) = false := by simpa using h11
                have hne : Hid (NoEmb d.layers) := Lib.hid (fun f bd ls e => by rw [HH.out] at e; cases e; exact h11)
                clear h11
                go_wp2_with fail
                go_meet
                exact ⟨X2, .inr ⟨rfl, HG.out, hne.out, HB2.out⟩⟩
      case rest =>
        obtain ⟨hx, rfl | ⟨rfl, hg, hne, hb⟩⟩ := hcut
        · have X2 := hx
          clear HV c0 c1 c2 z0
          go_wp2_with fail
          exact ⟨⟨k + 1, by omega, by go_num, XWO.out.tr X2⟩, by simp [intOf]; omega⟩
        · clear HV c0 c1 c2
          have HG := Lib.hid hg
          have HNE := Lib.hid hne
          have HB := Lib.hid hb
          obtain ⟨k0, k1, k2, zk⟩ := hb.three'
          have q2 := hb.frozen 2
          clear hg hne hb
          have X0 := hx
          have HX0 := Lib.hid hx
          have HD2 := Lib.hid (good_loss HG.out)
          have HC64 := Lib.hid (good_count64 HG.out)
          clear hx zk
          go_wp2_with fail
          obtain ⟨V, hV⟩ : ∃ V, V = (((wc.setCell ⟨wr.heap.size, 2, none⟩ (.int .i64 2)).alloc (.cells #[.int .i64 13, .int .i64 0, .int .i64 0, .int .i64 0, .int .i64 0, .int .i64 0, .int .i64 0, .int .i64 0, .slice a2 d.layers.length cc2] 52)).alloc (.cells #[.slice a1 d.input.length cc1, .slice (some ⟨wc.heap.size, 0, none⟩) 1 1, .int .i64 2] 27)) := ⟨_, rfl⟩
          have b4 : Blk V wr.heap.size 27 #[.slice a1 d.input.length cc1, .slice a2 d.layers.length cc2, .int .i64 2] := by rw [hV]; exact ((HB.out.set_ 2 _).alloc _).alloc _
          have zc : wr.heap.size < wc.heap.size := HB.out.lt
          have bL : Blk V wc.heap.size 52 #[.int .i64 13, .int .i64 0, .int .i64 0, .int .i64 0, .int .i64 0, .int .i64 0, .int .i64 0, .int .i64 0, .slice a2 d.layers.length cc2] := by
            rw [hV]
            have h := (Blk.new (wc.setCell ⟨wr.heap.size, 2, none⟩ (.int .i64 2)) 52 #[.int .i64 13, .int .i64 0, .int .i64 0, .int .i64 0, .int .i64 0, .int .i64 0, .int .i64 0, .int .i64 0, .slice a2 d.layers.length cc2]).alloc (.cells #[.slice a1 d.input.length cc1, .slice (some ⟨wc.heap.size, 0, none⟩) 1 1, .int .i64 2] 27)
            simpa using h
          have b5 : Blk V (wc.heap.size + 1) 27 #[.slice a1 d.input.length cc1, .slice (some ⟨wc.heap.size, 0, none⟩) 1 1, .int .i64 2] := by
            rw [hV]
            have h := Blk.new ((wc.setCell ⟨wr.heap.size, 2, none⟩ (.int .i64 2)).alloc (.cells #[.int .i64 13, .int .i64 0, .int .i64 0, .int .i64 0, .int .i64 0, .int .i64 0, .int .i64 0, .int .i64 0, .slice a2 d.layers.length cc2] 52)) 27 #[.slice a1 d.input.length cc1, .slice (some ⟨wc.heap.size, 0, none⟩) 1 1, .int .i64 2]
            simpa using h
          have xV : Ext wr V := by rw [hV]; exact ((X0.setCell (p := ⟨wr.heap.size, 2, none⟩) (Nat.le_refl _) _).alloc _).alloc _
          have zV : wc.heap.size + 1 < V.heap.size := b5.lt
          rw [← hV]
          have DD : DefAt (fun b => b < wr.heap.size) n V (.agg #[.slice a1 d.input.length cc1, .slice a2 d.layers.length cc2, .int .i64 2]) ⟨d.input, d.layers, 2⟩ :=
            ⟨⟨a1, cc1, a2, cc2, rfl, HROW.out.ext xV, (HLY.out.ext xV).mono (fun b hb => Nat.lt_of_lt_of_le hb XWO.out.size)⟩, fun b hb => Nat.lt_of_lt_of_le hb xV.size⟩
          have DI : DefAt (fun b => b < V.heap.size) (n + 1) V (.agg #[.slice a1 d.input.length cc1, .slice (some ⟨wc.heap.size, 0, none⟩) 1 1, .int .i64 2]) ⟨d.input, [.mk (LayF.kind0 13) d.layers], 2⟩ :=
            ⟨⟨a1, cc1, _, 1, rfl, HROW.out.ext xV, LaysAt.one27 (f := LayF.kind0 13) bL (by show _ < V.heap.size; omega) (DD.is.elim fun _ h => (HLY.out.ext xV).mono (fun b hb => Nat.lt_of_lt_of_le (Nat.lt_of_lt_of_le hb XWO.out.size) xV.size))⟩, fun b hb => hb⟩
          have B4 := Lib.hid b4
          have B5 := Lib.hid b5
          have XV := Lib.hid xV
          have HDD := Lib.hid DD
          have HDI := Lib.hid DI
          clear hV b4 bL b5 xV DD DI k0 k1 k2 q2 X0 HB HX0 HROW HLY
          have MY := Lib.hid (fun u (x : Ext V u) => mayR_any (HDI.out.ext x) (by show countS [.mk (LayF.kind0 13) d.layers] ≤ 200; rw [count_one]; have := HC64.out; omega))
          refine (MY.out _ (Ext.refl _)).mono ?_
          rintro e v1 ⟨rfl, x1⟩
          have X1 := x1
          obtain ⟨k0, k1, k2, zk⟩ := (B4.out.ext x1).three'
          obtain ⟨j0, j1, j2, zj⟩ := (B5.out.ext x1).three'
          clear MY x1
          cases hr : goodD ⟨d.input, [.mk (LayF.kind0 13) d.layers], 2⟩ with
          | false =>
            clear hr
            go_wp2_with fail
            exact ⟨⟨k + 1, by omega, by go_num, XWO.out.tr (XV.out.tr X1)⟩, by simp [intOf]; omega⟩
          | true =>
            have RT := Lib.hid (res_told (g := LayF.kind0 13) HD2.out HNE.out rfl (show (2 : Int) ≠ 1 by decide) hr)
            clear hr
            have HDIR := Lib.hid (rowof_def HDD.out)
            have OU2 := Lib.hid (fun u (x : Ext V u) => out_any (def_ext HDD.out x))
            have PA2 := Lib.hid (fun u (x : Ext V u) => params_any (def_ext HDD.out x))
            have OU3 := Lib.hid (fun u (x : Ext V u) => out_any (def_ext HDI.out x))
            have PA3 := Lib.hid (fun u (x : Ext V u) => params_any (def_ext HDI.out x))
            rw [RT.out] at OU3 PA3
            cases hT : toldS ⟨d.input, d.layers, 2⟩ with
            | bad er => as_aux_lemma =>
              rw [hT] at OU2 PA2 OU3 PA3
              have hne0 := told_ne hT
              have te : (er != 0) = true := by simpa using hne0
              clear hT hne0
              go_wp2_with fail
              refine (OU2.out _ X1).mono ?_
              rintro e v2 ⟨rfl, x2⟩
              have X2 := X1.tr x2
              replace k0 := x2.cell k0
              replace k1 := x2.cell k1
              replace k2 := x2.cell k2
              replace j0 := x2.cell j0
              replace j1 := x2.cell j1
              replace j2 := x2.cell j2
              replace zk := cell_lt k0
              replace zj := cell_lt j0
              simp only at zk zj
              clear OU2 x2 X1
              go_wp2_with fail
              refine (PA2.out _ X2).mono ?_
              rintro e v3 ⟨rfl, x3⟩
              have X3 := X2.tr x3
              replace k0 := x3.cell k0
              replace k1 := x3.cell k1
              replace k2 := x3.cell k2
              replace j0 := x3.cell j0
              replace j1 := x3.cell j1
              replace j2 := x3.cell j2
              replace zk := cell_lt k0
              replace zj := cell_lt j0
              simp only at zk zj
              clear PA2 x3 X2
              go_wp2_with fail
              refine (OU3.out _ X3).mono ?_
              rintro e v4 ⟨rfl, x4⟩
              have X4 := X3.tr x4
              replace k0 := x4.cell k0
              replace k1 := x4.cell k1
              replace k2 := x4.cell k2
              replace j0 := x4.cell j0
              replace j1 := x4.cell j1
              replace j2 := x4.cell j2
              replace zk := cell_lt k0
              replace zj := cell_lt j0
              simp only at zk zj
              clear OU3 x4 X3
              go_wp2_with fail
              refine (PA3.out _ X4).mono ?_
              rintro e v5 ⟨rfl, x5⟩
              have X5 := X4.tr x5
              replace k0 := x5.cell k0
              replace k1 := x5.cell k1
              replace k2 := x5.cell k2
              replace j0 := x5.cell j0
              replace j1 := x5.cell j1
              replace j2 := x5.cell j2
              replace zk := cell_lt k0
              replace zj := cell_lt j0
              simp only at zk zj
              clear PA3 x5 X4
              go_wp2_with (go_at_call 11; refine (num27_any _ _).mono ?_; rintro e w' ⟨rfl, rfl⟩)
              exact ⟨⟨k + 1, by omega, by go_num, XWO.out.tr (XV.out.tr X5)⟩, by simp [intOf]; omega⟩
            | ok x ps =>
              rw [hT] at OU2 PA2 OU3 PA3
              dsimp only at OU3 PA3
              have hnames := told_names hT
              clear hT
              by_cases hx : x = d.input
              · as_aux_lemma =>
                subst hx
                rw [if_pos rfl] at OU3 PA3
                go_wp2_with fail
                refine (OU2.out _ X1).mono ?_
                rintro e v2 ⟨xa, xc, rfl, x2, o2⟩
                have X2 := X1.tr x2
                replace k0 := x2.cell k0
                replace k1 := x2.cell k1
                replace k2 := x2.cell k2
                replace j0 := x2.cell j0
                replace j1 := x2.cell j1
                replace j2 := x2.cell j2
                replace zk := cell_lt k0
                replace zj := cell_lt j0
                simp only at zk zj
                have O2 := Lib.hid (Row.of_owns o2).1
                clear o2
                clear OU2 x2 X1
                go_wp2_with fail
                refine (PA2.out _ X2).mono ?_
                rintro e v3 ⟨pa, pc, rfl, x3, p3⟩
                have X3 := X2.tr x3
                replace k0 := x3.cell k0
                replace k1 := x3.cell k1
                replace k2 := x3.cell k2
                replace j0 := x3.cell j0
                replace j1 := x3.cell j1
                replace j2 := x3.cell j2
                replace zk := cell_lt k0
                replace zj := cell_lt j0
                simp only at zk zj
                have P3 := Lib.hid p3
                have Y3 := Lib.hid x3
                clear p3
                clear PA2 x3 X2
                go_wp2_with fail
                refine (OU3.out _ X3).mono ?_
                rintro e v4 ⟨xb, xd, rfl, x4, o4⟩
                have X4 := X3.tr x4
                replace k0 := x4.cell k0
                replace k1 := x4.cell k1
                replace k2 := x4.cell k2
                replace j0 := x4.cell j0
                replace j1 := x4.cell j1
                replace j2 := x4.cell j2
                replace zk := cell_lt k0
                replace zj := cell_lt j0
                simp only at zk zj
                have O4 := Lib.hid (Row.of_owns o4).1
                have Y4 := Lib.hid x4
                clear o4
                clear OU3 x4 X3
                go_wp2_with fail
                refine (PA3.out _ X4).mono ?_
                rintro e v5 ⟨pb, pd, rfl, x5, p5⟩
                have X5 := X4.tr x5
                replace k0 := x5.cell k0
                replace k1 := x5.cell k1
                replace k2 := x5.cell k2
                replace j0 := x5.cell j0
                replace j1 := x5.cell j1
                replace j2 := x5.cell j2
                replace zk := cell_lt k0
                replace zj := cell_lt j0
                simp only at zk zj
                have P5 := Lib.hid p5
                have Y5 := Lib.hid x5
                clear p5
                clear PA3 x5 X4
                have HTN := Lib.hid hnames
                have EQ1 := Lib.hid (eqNumbers_any ((((O2.out.ext Y3.out).ext Y4.out).ext Y5.out)) (HDIR.out.ext X5))
                rw [decide_eq_true rfl] at EQ1
                have EQ2 := Lib.hid (fun nq => eqNumbers_any ((O4.out.ext Y5.out).ext ((Ext.refl v5).drewN nq)) (((((O2.out.ext Y3.out).ext Y4.out).ext Y5.out)).ext ((Ext.refl v5).drewN nq)))
                rw [decide_eq_true rfl] at EQ2
                have P35 := Lib.hid ((P3.out.ext Y4.out).ext Y5.out)
                clear hnames
                go_wp2_with (first | (go_at_call 11; refine (num27_any _ _).mono ?_; rintro e w' ⟨rfl, rfl⟩) | (go_at_call 12; refine EQ1.out.mono ?_; rintro e w' ⟨rfl, nq, rfl⟩; clear EQ1) | (go_at_call 12; refine (EQ2.out _).mono ?_; rintro e w' ⟨rfl, nr, rfl⟩; clear EQ2))
                obtain ⟨vo, hvo⟩ : ∃ vo, vo = v5.drewN (nq + nr) := ⟨_, rfl⟩
                have xo : Ext v5 vo := by rw [hvo]; exact (Ext.refl v5).drewN _
                rw [← hvo]
                clear hvo
                have XO := Lib.hid (X5.tr xo)
                have hpm := P5.out.max
                rw [List.length_map] at hpm
                go_loopw [14] (fun i wx => ∃ j : Nat, j ≤ ps.length ∧ i = .int .i64 j ∧ Ext vo wx) (fun i _ => ps.length - (intOf i).toNat)
                case atStart => exact ⟨0, Nat.zero_le _, rfl, Ext.refl _⟩
                case round =>
                  obtain ⟨j, hj, rfl, x6⟩ := hrel
                  rcases Nat.lt_or_ge j ps.length with hlt | hge
                  · as_aux_lemma =>
                    have hjz : (j : Int) < (ps.length : Int) := by omega
                    have HX6 := Lib.hid x6
                    obtain ⟨g, c, sa, sc, e1, n1, n2, n3, n4, n5⟩ := (P35.out.ext (xo.tr x6)).at hlt
                    obtain ⟨g', c', sb, sd, e2, m1, m2, m3, m4, m5⟩ := (P5.out.ext (xo.tr x6)).at (show j < (ps.map (tagP [48, 46])).length by simpa using hlt)
                    have ej : (ps.map (tagP [48, 46]))[j]'(by simpa using hlt) = tagP [48, 46] ps[j] := by simp
                    rw [ej] at m1 m2 m3 m4 m5
                    simp only [tagP] at m1 m2 m3 m4 m5
                    cases e1
                    cases e2
                    have hsz := HTN.out _ (List.getElem_mem hlt)
                    obtain ⟨⟨pn, psh, pi, po⟩, hp⟩ : ∃ p, ps[j] = p := ⟨_, rfl⟩
                    rw [hp] at n1 n2 n3 n4 n5 m1 m2 m3 m4 m5 hsz
                    simp only at n1 n2 n3 n4 n5 m1 m2 m3 m4 m5 hsz
                    obtain ⟨NA, hNA⟩ : ∃ N, ba pn = N := ⟨_, rfl⟩
                    obtain ⟨NB, hNB⟩ : ∃ N, ba ([48, 46] ++ pn) = N := ⟨_, rfl⟩
                    rw [hNA] at n1
                    rw [hNB] at m1
                    have AD := add_ba (A := ⟨#[48, 46]⟩) (B := NA) (C := NB) (by rw [← hNA, ← hNB]; exact ba_app [48, 46] pn) (by
                      rw [← hNA, ba_size]
                      show 2 + _ ≤ _
                      omega)
                    have ST : (NB.toList != NB.toList) = false := by simp
                    have EQ3 := Lib.hid (fun u (x : Ext wr u) => eqNumbers_any ((Row.of_owns n5).1.ext x) ((Row.of_owns m5).1.ext x))
                    rw [decide_eq_true rfl] at EQ3
                    have zg := cell_lt n1
                    have zg' := cell_lt m1
                    simp only at zg zg'
                    have hj0 : (0 : Int) ≤ (j : Int) := by omega
                    clear hNA hNB hp ej n5 m5 hsz P35 P5 x6
                    go_wp2_with fail
                    go_quiet ((go_at_call 12; exact Calls.quiet_of (EQ3.out _ (by repeat (first | with_reducible exact Ext.refl _ | with_reducible apply Ext.drew | with_reducible apply Ext.drewN | with_reducible apply Ext.alloc | ((with_reducible refine Ext.setCell ?_ ?_ _); rotate_left; focus (first | (simp; done) | (simp; omega) | omega)) | with_reducible refine Ext.tr ?_ x1 | with_reducible refine Ext.tr ?_ x2 | with_reducible refine Ext.tr ?_ x3 | with_reducible refine Ext.tr ?_ x4 | with_reducible refine Ext.tr ?_ x5 | with_reducible refine Ext.tr ?_ x6 | with_reducible refine Ext.tr ?_ x9 | with_reducible refine Ext.tr ?_ xa | with_reducible refine Ext.tr ?_ xb | with_reducible refine Ext.tr ?_ xc | with_reducible refine Ext.tr ?_ xd | with_reducible refine Ext.tr ?_ hx | with_reducible refine Ext.tr ?_ hext | with_reducible assumption)))))
                    go_wp2_with fail
                    exact ⟨⟨j + 1, by omega, by go_num, HX6.out.tr (by repeat (first | with_reducible exact Ext.refl _ | with_reducible apply Ext.drew | with_reducible apply Ext.drewN | with_reducible apply Ext.alloc | ((with_reducible refine Ext.setCell ?_ ?_ _); rotate_left; focus (first | (simp; done) | (simp; omega) | omega)) | with_reducible refine Ext.tr ?_ x1 | with_reducible refine Ext.tr ?_ x2 | with_reducible refine Ext.tr ?_ x3 | with_reducible refine Ext.tr ?_ x4 | with_reducible refine Ext.tr ?_ x5 | with_reducible refine Ext.tr ?_ x6 | with_reducible refine Ext.tr ?_ x9 | with_reducible refine Ext.tr ?_ xa | with_reducible refine Ext.tr ?_ xb | with_reducible refine Ext.tr ?_ xc | with_reducible refine Ext.tr ?_ xd | with_reducible refine Ext.tr ?_ hx | with_reducible refine Ext.tr ?_ hext | with_reducible assumption))⟩, by simp [intOf]; omega⟩
                  · obtain rfl : j = ps.length := by omega
                    have hjz : ¬ ((ps.length : Nat) : Int) < (ps.length : Int) := by omega
                    go_wp2_with fail
                    exact ⟨⟨k + 1, by omega, by go_num, XWO.out.tr (XV.out.tr (XO.out.tr x6))⟩, by simp [intOf]; omega⟩
              · as_aux_lemma =>
                rw [if_neg hx] at OU3 PA3
                have HX := Lib.hid hx
                clear hx hnames
                go_wp2_with fail
                refine (OU2.out _ X1).mono ?_
                rintro e v2 ⟨xa, xc, rfl, x2, o2⟩
                have X2 := X1.tr x2
                replace k0 := x2.cell k0
                replace k1 := x2.cell k1
                replace k2 := x2.cell k2
                replace j0 := x2.cell j0
                replace j1 := x2.cell j1
                replace j2 := x2.cell j2
                replace zk := cell_lt k0
                replace zj := cell_lt j0
                simp only at zk zj
                have O2 := Lib.hid (Row.of_owns o2).1
                clear o2
                clear OU2 x2 X1
                go_wp2_with fail
                refine (PA2.out _ X2).mono ?_
                rintro e v3 ⟨pa, pc, rfl, x3, p3⟩
                have X3 := X2.tr x3
                replace k0 := x3.cell k0
                replace k1 := x3.cell k1
                replace k2 := x3.cell k2
                replace j0 := x3.cell j0
                replace j1 := x3.cell j1
                replace j2 := x3.cell j2
                replace zk := cell_lt k0
                replace zj := cell_lt j0
                simp only at zk zj
                have Y3 := Lib.hid x3
                clear p3
                clear PA2 x3 X2
                go_wp2_with fail
                refine (OU3.out _ X3).mono ?_
                rintro e v4 ⟨rfl, x4⟩
                have X4 := X3.tr x4
                replace k0 := x4.cell k0
                replace k1 := x4.cell k1
                replace k2 := x4.cell k2
                replace j0 := x4.cell j0
                replace j1 := x4.cell j1
                replace j2 := x4.cell j2
                replace zk := cell_lt k0
                replace zj := cell_lt j0
                simp only at zk zj
                have Y4 := Lib.hid x4
                clear OU3 x4 X3
                go_wp2_with fail
                refine (PA3.out _ X4).mono ?_
                rintro e v5 ⟨rfl, x5⟩
                have X5 := X4.tr x5
                replace k0 := x5.cell k0
                replace k1 := x5.cell k1
                replace k2 := x5.cell k2
                replace j0 := x5.cell j0
                replace j1 := x5.cell j1
                replace j2 := x5.cell j2
                replace zk := cell_lt k0
                replace zj := cell_lt j0
                simp only at zk zj
                have Y5 := Lib.hid x5
                clear PA3 x5 X4
                have EQ := Lib.hid (eqNumbers_any (((O2.out.ext Y3.out).ext Y4.out).ext Y5.out) (HDIR.out.ext X5))
                rw [decide_eq_false HX.out] at EQ
                go_wp2_with (first | (go_at_call 11; refine (num27_any _ _).mono ?_; rintro e w' ⟨rfl, rfl⟩) | (go_at_call 12; refine EQ.out.mono ?_; rintro e w' ⟨rfl, nq, rfl⟩))
                exact ⟨⟨k + 1, by omega, by go_num, XWO.out.tr (XV.out.tr (X5.drewN nq))⟩, by simp [intOf]; omega⟩
    · have hor : ¬ (k : Int) < (len : Int) ∨ ((k : Int) < (len : Int) ∧ ¬ (k : Int) < 6) := by omega
      rcases hor with h1z | ⟨h1z, h2z⟩
      all_goals
        clear HT
        go_wp2_with (go_at_call 16; refine (wakes27 _).mono ?_; rintro e w' ⟨rfl, x9⟩)
        go_ret
        exact ⟨rfl, hext.tr x9⟩
set_option maxRecDepth 100000 in
theorem resids_any {H : Type} {enc : TypeId × Value → H} {w : World} {base : Nat} {v : Value} {d : DataW H} {p : List MemPlace}
    (hv : Value.okWide Tryd.prog w .any base 22 v) (h : DataW.Trod enc Tryd.prog w 0 (fun _ => true) true 22 v d p) (_ : TabW w) :
    Calls Tryd.prog 5 #[v] w fun e w' => e = .returned (.bool true) ∧ Ext w w' := by
  rcases defs_open hv h with ⟨a, cap, rfl⟩ | ⟨b, o, len, cap, rfl, h0, h1, hL⟩
  · clear hv h
    go_enter Tryd.func5, Tryd.ntmps5
    go_wp2_with fail
    go_loopw [3] (fun i wr => i = .int .i64 0 ∧ wr = w) (fun _ _ => 0)
    case atStart => exact ⟨rfl, rfl⟩
    case round =>
      obtain ⟨rfl, hwr⟩ := hrel
      subst hwr
      go_wp2_with (go_at_call 16; refine (wakes27 _).mono ?_; rintro e w' ⟨rfl, x9⟩)
      go_ret
      exact ⟨rfl, x9⟩
  · exact resids_walk b o len cap w h1 hL
end Go.Proofs.YtgokenbojppnhaaDoor
