/- (*ratchetref26.reader).body: the walk. -/
import Derived.Test.YtkdfenkpfffcaaaRefDef6
import Derived.Maps.AppendAt
namespace Go.Proofs.Ytkdfenkpfffcaaa
open Go.RowKit
theorem oneV_eq (o : Option LayF) : oneV o = .tuple #[.agg (layA (o.getD LayF.zero) (.slice none 0 0)), .bool o.isSome] := by cases o <;> rfl
set_option maxHeartbeats 8000000 in
set_option maxRecDepth 100000 in
theorem bodyR_step (e deep : Nat) (hd : deep + e = 4) (IH : ∀ e', e = e' + 1 → BodyOkR e' (deep + 1)) : BodyOkR e deep := by
  intro R v ls i count w h hl hw hcount hi fu hfu
  obtain ⟨i0, hi0, hz0, hz1, hz2⟩ := info_parts lay_info
  have LI := Lib.hid h.lines
  have OFF := Lib.hid h.off
  have zR := h.blk.lt
  have HB0 := Lib.hid h.blk
  have HW := Lib.hid hw
  obtain ⟨T, hT⟩ : ∃ T, bodyR ls fu deep i count [] = T := ⟨_, rfl⟩
  rw [hT]
  have HT := Lib.hid hT
  have hdz : (deep : Int) ≤ 4 := by omega
  obtain ⟨la, lc, rfl, -, -, lr⟩ := LI.out
  have LR := Lib.hid lr
  rw [strs_len] at LI HB0 OFF ⊢
  clear h hw hT lr
  go_enter Try.func48, Try.ntmps48
  go_wp2_with fail
  go_loopw [6] (fun l wr => ∃ (fu' j count' : Nat) (acc : List Lay), ls.length - j + 1 ≤ fu' ∧ j ≤ ls.length ∧ count' ≤ 64 ∧ acc.length ≤ count' ∧ bodyR ls fu' deep j count' acc = T ∧ GB w wr R ∧ Blk wr R 96 #[.slice la ls.length lc, .int .i64 j, .int .i64 count'] ∧ AccAt w.heap.size wr e l acc) (fun _ wr => ls.length + 1 - (intOf ((wr.cell? ⟨R, 1, none⟩).getD (.int .i64 0))).toNat)
  case atStart => exact ⟨fu, i, count, [], hfu, hi, hcount, by simp, HT.out, GB.refl _ _, HB0.out, AccAt.nil _ _ _⟩
  case round =>
    obtain ⟨fu', j, count', acc, hfu', hj, hl1, hl2, hT, hgb, hblk, hacc⟩ := hrel
    obtain ⟨fz, rfl⟩ : ∃ fz, fu' = fz + 1 := ⟨fu' - 1, by omega⟩
    have GBX := Lib.hid hgb
    have BLK := Lib.hid hblk
    have ACC := Lib.hid hacc
    have RD := Lib.hid (show ReadR wr R (.slice la ls.length lc) ls j count' from ⟨hblk, LI.out.gb hgb OFF.out, OFF.out⟩)
    obtain ⟨ua, uc, rfl⟩ := hacc.form
    have c0 : wr.cell? ⟨R, 0, none⟩ = some (.slice la ls.length lc) := hblk.cell 0
    have c1 : wr.cell? ⟨R, 1, none⟩ = some (.int .i64 j) := hblk.cell 1
    have c2 : wr.cell? ⟨R, 2, none⟩ = some (.int .i64 count') := hblk.cell 2
    have BLKM := Lib.hid c1
    have zr := hblk.lt
    have zb := hgb.size
    unfold bodyR at hT
    have HT2 := Lib.hid hT
    clear hT hgb hblk hacc
    rcases Nat.lt_or_ge j ls.length with hlt | hge
    · have hjz : (j : Int) < (ls.length : Int) := by omega
      obtain ⟨b1, o1, rfl, hc1⟩ := LR.out (by intro e; have := congrArg List.length e; rw [strs_len] at this; simp at this; rw [this] at hlt; simp at hlt)
      have f1 := GBX.out.cell ((hc1 j (by rw [strs_len]; exact hlt)).trans (show (strs ls)[j]? = some (.string (ba ls[j])) by simp [strs, hlt])) (OFF.out b1 rfl)
      have zf := cell_lt f1
      simp only at zf
      have HL := Lib.hid (show ls[j]? = some ls[j] from List.getElem?_eq_getElem hlt)
      have LY := Lib.hid (fun u => layerRef_any ls[j] u (HW.out _ (List.getElem_mem hlt)))
      clear hc1
      generalize ls[j] = s at *
      rw [HL.out] at HT2
      rw [oneV_eq] at LY
      obtain ⟨O, hO⟩ : ∃ O, layerR s = O := ⟨_, rfl⟩
      simp only at HT2
      rw [hO] at LY HT2
      obtain ⟨S, hS⟩ : ∃ S, ba s = S := ⟨_, rfl⟩
      rw [hS] at LY f1
      obtain ⟨F, hF⟩ : ∃ F, O.getD LayF.zero = F := ⟨_, rfl⟩
      obtain ⟨K, hK⟩ : ∃ K, O.isSome = K := ⟨_, rfl⟩
      rw [hF, hK] at LY
      simp only [layA] at LY
      have HF := Lib.hid hF
      have HK := Lib.hid hK
      clear hO hS hF hK
      go_wp2_with fail
      go_quiet (fail)
      go_wp2_with fail
      obtain ⟨V, hV⟩ : ∃ V : World, wr.drewN nq = V := ⟨_, rfl⟩
      have xV : Ext wr V := by rw [← hV]; exact (Ext.refl wr).drewN _
      have k0 := xV.cell c0
      have k1 := xV.cell c1
      have k2 := xV.cell c2
      have kf := xV.cell f1
      have zrV : R < V.heap.size := cell_lt k0
      have zfV : b1 < V.heap.size := cell_lt kf
      have GBV := Lib.hid (GBX.out.ext xV)
      have ACV := Lib.hid (ACC.out.ext xV)
      have BLV := Lib.hid (BLK.out.ext xV)
      have RDV := Lib.hid (RD.out.ext xV)
      have zb2 := GBV.out.size
      rw [hV]
      clear hV xV c0 c1 c2 f1 GBX ACC BLK RD zr zf zb
      go_cut [7, 8] (fun s7 s8 wx => ∃ wy g, wy = wx ∧ s7 = .pointer (some ⟨g, 0, none⟩) ∧ s8 = .bool K ∧ V.heap.size ≤ g ∧ wx.cell? ⟨g, 0, none⟩ = some (.int .i64 F.kind) ∧ wx.cell? ⟨g, 1, none⟩ = some (.int .i64 F.inn) ∧ wx.cell? ⟨g, 2, none⟩ = some (.int .i64 F.out) ∧ wx.cell? ⟨g, 3, none⟩ = some (.int .i64 F.size) ∧ wx.cell? ⟨g, 4, none⟩ = some (.int .i64 F.stride) ∧ wx.cell? ⟨g, 5, none⟩ = some (.int .i64 F.pad) ∧ wx.cell? ⟨g, 6, none⟩ = some (.int .i64 F.percent) ∧ wx.cell? ⟨g, 7, none⟩ = some (.int .i64 F.heads) ∧ wx.cell? ⟨g, 8, none⟩ = some (.slice none 0 0) ∧ wx.frozen? ⟨g, 8, none⟩ = false ∧ Ext V wx)
      case first =>
        go_region_held3 (fun w' => w'.cell? ⟨R, 0, none⟩ = some (.slice (some ⟨b1, o1, none⟩) ls.length lc) ∧ w'.cell? ⟨R, 1, none⟩ = some (.int .i64 j) ∧ w'.cell? ⟨b1, o1 + j, none⟩ = some (.string S) ∧ R < w'.heap.size ∧ b1 < w'.heap.size ∧ Ext V w')
          (refine ⟨?_, ?_, ?_, ?_, ?_, ?_⟩ <;> first | (simp [go_sem, *]; done) | omega | (simp at z1; omega) | (simp at z2; omega) | (simp at z3; omega) | (simp at z4; omega) | exact (by repeat (first | with_reducible exact Ext.refl _ | with_reducible apply Ext.drew | with_reducible apply Ext.drewN | with_reducible apply Ext.alloc | ((with_reducible refine Ext.setCell ?_ ?_ _); rotate_left; focus (first | (simp; done) | (simp; omega) | omega)) | with_reducible refine Ext.tr ?_ x1 | with_reducible refine Ext.tr ?_ x2 | with_reducible refine Ext.tr ?_ x3 | with_reducible refine Ext.tr ?_ x4 | with_reducible refine Ext.tr ?_ x5 | with_reducible refine Ext.tr ?_ x6 | with_reducible refine Ext.tr ?_ x7 | with_reducible refine Ext.tr ?_ x8 | with_reducible refine Ext.tr ?_ xd | with_reducible assumption)))
          (first
            | ((go_at_call 90; refine (LY.out _).mono ?_; rintro e v3 ⟨rfl, x3⟩; obtain ⟨c3, f3⟩ := x3.rules; have z3 := x3.size; have k3_V_heap_size_0 := c3 (V.heap.size) 0 (by first | (simp; done) | (simp; omega) | omega); have q3_V_heap_size_0 := f3 (V.heap.size) 0 (by first | (simp; done) | (simp; omega) | omega); have k3_V_heap_size_1 := c3 (V.heap.size) 1 (by first | (simp; done) | (simp; omega) | omega); have q3_V_heap_size_1 := f3 (V.heap.size) 1 (by first | (simp; done) | (simp; omega) | omega); have k3_V_heap_size_2 := c3 (V.heap.size) 2 (by first | (simp; done) | (simp; omega) | omega); have q3_V_heap_size_2 := f3 (V.heap.size) 2 (by first | (simp; done) | (simp; omega) | omega); have k3_V_heap_size_3 := c3 (V.heap.size) 3 (by first | (simp; done) | (simp; omega) | omega); have q3_V_heap_size_3 := f3 (V.heap.size) 3 (by first | (simp; done) | (simp; omega) | omega); have k3_V_heap_size_4 := c3 (V.heap.size) 4 (by first | (simp; done) | (simp; omega) | omega); have q3_V_heap_size_4 := f3 (V.heap.size) 4 (by first | (simp; done) | (simp; omega) | omega); have k3_V_heap_size_5 := c3 (V.heap.size) 5 (by first | (simp; done) | (simp; omega) | omega); have q3_V_heap_size_5 := f3 (V.heap.size) 5 (by first | (simp; done) | (simp; omega) | omega); have k3_V_heap_size_6 := c3 (V.heap.size) 6 (by first | (simp; done) | (simp; omega) | omega); have q3_V_heap_size_6 := f3 (V.heap.size) 6 (by first | (simp; done) | (simp; omega) | omega); have k3_V_heap_size_7 := c3 (V.heap.size) 7 (by first | (simp; done) | (simp; omega) | omega); have q3_V_heap_size_7 := f3 (V.heap.size) 7 (by first | (simp; done) | (simp; omega) | omega); have k3_V_heap_size_8 := c3 (V.heap.size) 8 (by first | (simp; done) | (simp; omega) | omega); have q3_V_heap_size_8 := f3 (V.heap.size) 8 (by first | (simp; done) | (simp; omega) | omega); have z3_V_heap_size : V.heap.size < v3.heap.size := (by (try simp at z3); omega); (try simp at z3); clear c3 f3; simp [go_sem, *] at k3_V_heap_size_0 q3_V_heap_size_0 k3_V_heap_size_1 q3_V_heap_size_1 k3_V_heap_size_2 q3_V_heap_size_2 k3_V_heap_size_3 q3_V_heap_size_3 k3_V_heap_size_4 q3_V_heap_size_4 k3_V_heap_size_5 q3_V_heap_size_5 k3_V_heap_size_6 q3_V_heap_size_6 k3_V_heap_size_7 q3_V_heap_size_7 k3_V_heap_size_8 q3_V_heap_size_8); clear LY; have y3 : Ext V v3 := (by repeat (first | with_reducible exact Ext.refl _ | with_reducible apply Ext.drew | with_reducible apply Ext.drewN | with_reducible apply Ext.alloc | ((with_reducible refine Ext.setCell ?_ ?_ _); rotate_left; focus (first | (simp; done) | (simp; omega) | omega)) | with_reducible refine Ext.tr ?_ x1 | with_reducible refine Ext.tr ?_ x2 | with_reducible refine Ext.tr ?_ x3 | with_reducible refine Ext.tr ?_ x4 | with_reducible refine Ext.tr ?_ x5 | with_reducible refine Ext.tr ?_ x6 | with_reducible refine Ext.tr ?_ x7 | with_reducible refine Ext.tr ?_ x8 | with_reducible refine Ext.tr ?_ xd | with_reducible assumption)); have m0 := y3.cell k0; have m1 := y3.cell k1; have mf := y3.cell kf; have zm : R < v3.heap.size := cell_lt m0; have zmf : b1 < v3.heap.size := cell_lt mf; have zs := y3.size)
            | ((go_at_call 90; refine (LY.out _).mono ?_; rintro e v3 ⟨rfl, x3⟩; obtain ⟨c3, f3⟩ := x3.rules; have z3 := x3.size); clear LY; have y3 : Ext V v3 := (by repeat (first | with_reducible exact Ext.refl _ | with_reducible apply Ext.drew | with_reducible apply Ext.drewN | with_reducible apply Ext.alloc | ((with_reducible refine Ext.setCell ?_ ?_ _); rotate_left; focus (first | (simp; done) | (simp; omega) | omega)) | with_reducible refine Ext.tr ?_ x1 | with_reducible refine Ext.tr ?_ x2 | with_reducible refine Ext.tr ?_ x3 | with_reducible refine Ext.tr ?_ x4 | with_reducible refine Ext.tr ?_ x5 | with_reducible refine Ext.tr ?_ x6 | with_reducible refine Ext.tr ?_ x7 | with_reducible refine Ext.tr ?_ x8 | with_reducible refine Ext.tr ?_ xd | with_reducible assumption)); have m0 := y3.cell k0; have m1 := y3.cell k1; have mf := y3.cell kf; have zm : R < v3.heap.size := cell_lt m0; have zmf : b1 < v3.heap.size := cell_lt mf; have zs := y3.size))
        all_goals (go_wp2_with fail; go_meet; exact ⟨_, _, rfl, rfl, rfl, by (first | (simp; done) | (simp; omega) | omega), by simp [go_sem, *], by simp [go_sem, *], by simp [go_sem, *], by simp [go_sem, *], by simp [go_sem, *], by simp [go_sem, *], by simp [go_sem, *], by simp [go_sem, *], by simp [go_sem, *], by simp [go_sem, *], (by repeat (first | with_reducible exact Ext.refl _ | with_reducible apply Ext.drew | with_reducible apply Ext.drewN | with_reducible apply Ext.alloc | ((with_reducible refine Ext.setCell ?_ ?_ _); rotate_left; focus (first | (simp; done) | (simp; omega) | omega)) | with_reducible refine Ext.tr ?_ x1 | with_reducible refine Ext.tr ?_ x2 | with_reducible refine Ext.tr ?_ x3 | with_reducible refine Ext.tr ?_ x4 | with_reducible refine Ext.tr ?_ x5 | with_reducible refine Ext.tr ?_ x6 | with_reducible refine Ext.tr ?_ x7 | with_reducible refine Ext.tr ?_ x8 | with_reducible refine Ext.tr ?_ xd | with_reducible assumption))⟩)
      case rest =>
        obtain ⟨wy, g, rfl, rfl, rfl, hg, y0, y1, y2, y3, y4, y5, y6, y7, y8, z8, xG⟩ := hcut
        have l0 := xG.cell k0
        have l1 := xG.cell k1
        have l2 := xG.cell k2
        have zR2 : R < wy.heap.size := cell_lt l0
        have zg : g < wy.heap.size := cell_lt y0
        have GVX := Lib.hid ((GB.refl V R).ext xG)
        have GB2 := Lib.hid (GBV.out.ext xG)
        have AC2 := Lib.hid (ACV.out.ext xG)
        have BL2 := Lib.hid (BLV.out.ext xG)
        have RD2 := Lib.hid (RDV.out.ext xG)
        have zb3 := GB2.out.size
        have hm : acc.length ≤ 100000 := by omega
        have OB2 := Lib.hid (show ∀ q, (Value.slice ua acc.length uc).ownBlock = some q → q < V.heap.size by obtain ⟨ps, own, -, -⟩ := ACV.out.is; exact fun q hq => (own.lt q hq).2)
        clear k0 k1 k2 kf zfV GBV BLV RDV xG LY
        obtain hO | ⟨F', hO⟩ : O = none ∨ ∃ F', O = some F' := by
          cases O
          · exact .inl rfl
          · exact .inr ⟨_, rfl⟩
        · obtain rfl : K = false := by rw [← HK.out, hO]; rfl
          rw [hO] at HT2
          have TE : T = (some acc, j, count') := HT2.out.symm
          subst TE
          clear HT2 HT HK HF hO
          go_wp2_with fail
          (try rw [Exit.noGoto_ret])
          change bodyPost _ _ _ _ _ _
          simp [bodyPost, results, Try.results48, go_sem]
          exact ⟨GB2.out.ext (by repeat (first | with_reducible exact Ext.refl _ | with_reducible apply Ext.drew | with_reducible apply Ext.drewN | with_reducible apply Ext.alloc | ((with_reducible refine Ext.setCell ?_ ?_ _); rotate_left; focus (first | (simp; done) | (simp; omega) | omega)) | with_reducible refine Ext.tr ?_ x1 | with_reducible refine Ext.tr ?_ x2 | with_reducible refine Ext.tr ?_ x3 | with_reducible refine Ext.tr ?_ x4 | with_reducible refine Ext.tr ?_ x5 | with_reducible refine Ext.tr ?_ x6 | with_reducible refine Ext.tr ?_ x7 | with_reducible refine Ext.tr ?_ x8 | with_reducible refine Ext.tr ?_ xd | with_reducible assumption)), RD2.out.ext (by repeat (first | with_reducible exact Ext.refl _ | with_reducible apply Ext.drew | with_reducible apply Ext.drewN | with_reducible apply Ext.alloc | ((with_reducible refine Ext.setCell ?_ ?_ _); rotate_left; focus (first | (simp; done) | (simp; omega) | omega)) | with_reducible refine Ext.tr ?_ x1 | with_reducible refine Ext.tr ?_ x2 | with_reducible refine Ext.tr ?_ x3 | with_reducible refine Ext.tr ?_ x4 | with_reducible refine Ext.tr ?_ x5 | with_reducible refine Ext.tr ?_ x6 | with_reducible refine Ext.tr ?_ x7 | with_reducible refine Ext.tr ?_ x8 | with_reducible refine Ext.tr ?_ xd | with_reducible assumption)), fun h => (by cases h), fun L h => (by cases h; exact ⟨rfl, (AC2.out.ext (by repeat (first | with_reducible exact Ext.refl _ | with_reducible apply Ext.drew | with_reducible apply Ext.drewN | with_reducible apply Ext.alloc | ((with_reducible refine Ext.setCell ?_ ?_ _); rotate_left; focus (first | (simp; done) | (simp; omega) | omega)) | with_reducible refine Ext.tr ?_ x1 | with_reducible refine Ext.tr ?_ x2 | with_reducible refine Ext.tr ?_ x3 | with_reducible refine Ext.tr ?_ x4 | with_reducible refine Ext.tr ?_ x5 | with_reducible refine Ext.tr ?_ x6 | with_reducible refine Ext.tr ?_ x7 | with_reducible refine Ext.tr ?_ x8 | with_reducible refine Ext.tr ?_ xd | with_reducible assumption))).lays hm⟩)⟩
        · obtain rfl : K = true := by rw [← HK.out, hO]; rfl
          obtain rfl : F' = F := by have := HF.out; rw [hO] at this; exact this
          rw [hO] at HT2
          simp only at HT2
          clear HK HF hO
          by_cases hc : count' = 64
          · have cz : ((count' : Int) == 64) = true := by simp; omega
            have TE : T = (none, j, count') := by have := HT2.out; rw [if_pos (.inl hc)] at this; exact this.symm
            subst TE
            clear HT2 HT hc
            go_wp2_with fail
            (try rw [Exit.noGoto_ret])
            change bodyPost _ _ _ _ _ _
            simp [bodyPost, results, Try.results48, go_sem]
            exact ⟨GB2.out.ext (by repeat (first | with_reducible exact Ext.refl _ | with_reducible apply Ext.drew | with_reducible apply Ext.drewN | with_reducible apply Ext.alloc | ((with_reducible refine Ext.setCell ?_ ?_ _); rotate_left; focus (first | (simp; done) | (simp; omega) | omega)) | with_reducible refine Ext.tr ?_ x1 | with_reducible refine Ext.tr ?_ x2 | with_reducible refine Ext.tr ?_ x3 | with_reducible refine Ext.tr ?_ x4 | with_reducible refine Ext.tr ?_ x5 | with_reducible refine Ext.tr ?_ x6 | with_reducible refine Ext.tr ?_ x7 | with_reducible refine Ext.tr ?_ x8 | with_reducible refine Ext.tr ?_ xd | with_reducible assumption)), RD2.out.ext (by repeat (first | with_reducible exact Ext.refl _ | with_reducible apply Ext.drew | with_reducible apply Ext.drewN | with_reducible apply Ext.alloc | ((with_reducible refine Ext.setCell ?_ ?_ _); rotate_left; focus (first | (simp; done) | (simp; omega) | omega)) | with_reducible refine Ext.tr ?_ x1 | with_reducible refine Ext.tr ?_ x2 | with_reducible refine Ext.tr ?_ x3 | with_reducible refine Ext.tr ?_ x4 | with_reducible refine Ext.tr ?_ x5 | with_reducible refine Ext.tr ?_ x6 | with_reducible refine Ext.tr ?_ x7 | with_reducible refine Ext.tr ?_ x8 | with_reducible refine Ext.tr ?_ xd | with_reducible assumption)), fun _ => ⟨rfl, rfl⟩, fun L h => (by cases h)⟩
          · have cz : ((count' : Int) == 64) = false := by simp; omega
            have q1 := BL2.out.frozen 1
            have q2 := BL2.out.frozen 2
            obtain ⟨C, hC⟩ : ∃ C : Nat, count' + 1 = C := ⟨_, rfl⟩
            obtain ⟨J, hJ⟩ : ∃ J : Nat, j + 1 = J := ⟨_, rfl⟩
            have wc : IntKind.i64.wrap ((count' : Int) + 1) = (C : Int) := by rw [IntKind.wrap_i64]; omega
            have wj : IntKind.i64.wrap ((j : Int) + 1) = (J : Int) := by rw [IntKind.wrap_i64]; omega
            have gb1 : GB wy ((wy.setCell ⟨R, 2, none⟩ (.int .i64 (C : Int))).setCell ⟨R, 1, none⟩ (.int .i64 (J : Int))) R := ((GB.refl wy R).set 2 _).set 1 _
            have BL3 := Lib.hid (show Blk ((wy.setCell ⟨R, 2, none⟩ (.int .i64 (C : Int))).setCell ⟨R, 1, none⟩ (.int .i64 (J : Int))) R 96 #[.slice (some ⟨b1, o1, none⟩) ls.length lc, .int .i64 J, .int .i64 C] from (BL2.out.set_ 2 _).set_ 1 _)
            have RD3 := Lib.hid ((RD2.out.count C).at J)
            have GB3 := Lib.hid (GB2.out.trans gb1)
            have AC3 := Lib.hid (AC2.out.gb gb1 zR)
            have hgR : g ≠ R := by omega
            have x0 := gb1.cell y0 hgR
            have x1 := gb1.cell y1 hgR
            have x2 := gb1.cell y2 hgR
            have x3 := gb1.cell y3 hgR
            have x4 := gb1.cell y4 hgR
            have x5 := gb1.cell y5 hgR
            have x6 := gb1.cell y6 hgR
            have x7 := gb1.cell y7 hgR
            have x8 := gb1.cell y8 hgR
            have r8 : ((wy.setCell ⟨R, 2, none⟩ (.int .i64 (C : Int))).setCell ⟨R, 1, none⟩ (.int .i64 (J : Int))).frozen? ⟨g, 8, none⟩ = false := by simp [go_sem, z8]
            rw [hC, hJ] at HT2
            by_cases hk : F'.kind = 13
            · have kz : (F'.kind == 13) = true := by rw [hk]; rfl
              have hdd : deep = 4 ∨ ∃ e0, e = e0 + 1 := by rcases Nat.eq_zero_or_pos e with h | h; exact .inl (by omega); exact .inr ⟨e - 1, by omega⟩
              rcases hdd with h4 | ⟨e0, rfl⟩
              · have dz : ((deep : Int) == 4) = true := by simp; omega
                have TE : T = (none, j, count') := by have := HT2.out; rw [if_pos (.inr ⟨hk, h4⟩)] at this; exact this.symm
                subst TE
                clear HT2 HT h4 hk gb1 BL3 RD3 GB3 AC3 x0 x1 x2 x3 x4 x5 x6 x7 x8 r8 wc wj
                go_wp2_with fail
                (try rw [Exit.noGoto_ret])
                change bodyPost _ _ _ _ _ _
                simp [bodyPost, results, Try.results48, go_sem]
                exact ⟨GB2.out.ext (by repeat (first | with_reducible exact Ext.refl _ | with_reducible apply Ext.drew | with_reducible apply Ext.drewN | with_reducible apply Ext.alloc | ((with_reducible refine Ext.setCell ?_ ?_ _); rotate_left; focus (first | (simp; done) | (simp; omega) | omega)) | with_reducible refine Ext.tr ?_ x1 | with_reducible refine Ext.tr ?_ x2 | with_reducible refine Ext.tr ?_ x3 | with_reducible refine Ext.tr ?_ x4 | with_reducible refine Ext.tr ?_ x5 | with_reducible refine Ext.tr ?_ x6 | with_reducible refine Ext.tr ?_ x7 | with_reducible refine Ext.tr ?_ x8 | with_reducible refine Ext.tr ?_ xd | with_reducible assumption)), RD2.out.ext (by repeat (first | with_reducible exact Ext.refl _ | with_reducible apply Ext.drew | with_reducible apply Ext.drewN | with_reducible apply Ext.alloc | ((with_reducible refine Ext.setCell ?_ ?_ _); rotate_left; focus (first | (simp; done) | (simp; omega) | omega)) | with_reducible refine Ext.tr ?_ x1 | with_reducible refine Ext.tr ?_ x2 | with_reducible refine Ext.tr ?_ x3 | with_reducible refine Ext.tr ?_ x4 | with_reducible refine Ext.tr ?_ x5 | with_reducible refine Ext.tr ?_ x6 | with_reducible refine Ext.tr ?_ x7 | with_reducible refine Ext.tr ?_ x8 | with_reducible refine Ext.tr ?_ xd | with_reducible assumption)), fun _ => ⟨rfl, rfl⟩, fun L h => (by cases h)⟩
              · have dz : ((deep : Int) == 4) = false := by simp; omega
                rw [if_neg (show ¬ (count' = 64 ∨ F'.kind = 13 ∧ deep = 4) by rintro (h | ⟨-, h⟩); exact hc h; omega), if_pos hk] at HT2
                have IH' : Hid (BodyOkR e0 (deep + 1)) := Lib.hid (IH e0 rfl)
                clear hk gb1
                go_upto_region 10 with (fail)
                obtain ⟨V1, hV1⟩ : ∃ V1 : World, (wy.setCell ⟨R, 2, none⟩ (.int .i64 (C : Int))).setCell ⟨R, 1, none⟩ (.int .i64 (J : Int)) = V1 := ⟨_, rfl⟩
                have zg1 : g < V1.heap.size := by rw [← hV1]; simpa using zg
                have zR1 : R < V1.heap.size := by rw [← hV1]; simpa using zR2
                have GVV : Hid (GB V V1 R) := Lib.hid (by rw [← hV1]; exact ((GVX.out).set 2 _).set 1 _)
                rw [hV1] at BL3 RD3 GB3 x0 x1 x2 x3 x4 x5 x6 x7 x8 r8 ⊢
                clear hV1 y0 y1 y2 y3 y4 y5 y6 y7 y8 z8 l0 l1 l2 GB2 AC2 BL2 RD2 q1 q2 AC3
                have zVV := GVV.out.size
                obtain ⟨de, hde⟩ : ∃ de : Nat, deep + 1 = de := ⟨_, rfl⟩
                have wd : IntKind.i64.wrap ((deep : Int) + 1) = (de : Int) := by rw [IntKind.wrap_i64]; omega
                rw [hde] at HT2 IH'
                have IHC := Lib.hid (IH'.out RD3.out hl HW.out (show C ≤ 64 by omega) (show J ≤ ls.length by omega) fz (show ls.length - J + 1 ≤ fz by omega))
                clear IH' RD3 BL3
                go_wp2_with fail
                refine IHC.out.mono ?_
                rintro e' w3 ⟨lv, ok, rfl, res⟩
                clear IHC
                obtain ⟨⟨ro, i', c2⟩, hp⟩ : ∃ p, bodyR ls fz de J C [] = p := ⟨_, rfl⟩
                have bat := bodyR_at ls fz de J C []
                rw [hp] at res HT2 bat
                obtain ⟨rgb, rrd, rno, ryes⟩ := res
                simp only at rrd rno ryes bat
                have hi2 : i' ≤ ls.length := bat.2.2.1 (by omega)
                have hc2 : c2 ≤ 64 := bat.2.1 (by omega)
                have hc3 : C ≤ c2 := bat.2.2.2
                have hij : J ≤ i' := bat.1
                have G4 := Lib.hid (GB3.out.trans rgb)
                have GV4 := Lib.hid (GVV.out.trans rgb)
                have RD4 := Lib.hid rrd
                have u0 := rgb.cell x0 hgR
                have u1 := rgb.cell x1 hgR
                have u2 := rgb.cell x2 hgR
                have u3 := rgb.cell x3 hgR
                have u4 := rgb.cell x4 hgR
                have u5 := rgb.cell x5 hgR
                have u6 := rgb.cell x6 hgR
                have u7 := rgb.cell x7 hgR
                have u8 := rgb.cell x8 hgR
                have v8 : w3.frozen? ⟨g, 8, none⟩ = false := (World.frozen?_of_block (a := ⟨g, 8, none⟩) (rgb.block g zg1 (fun e => hgR (Option.some.inj e)))).trans r8
                have zr4 := rrd.blk.lt
                have zb4 := rgb.size
                have B4 := Lib.hid rrd.blk
                have m0 : w3.cell? ⟨R, 0, none⟩ = some (.slice (some ⟨b1, o1, none⟩) ls.length lc) := B4.out.cell 0
                have m1 : w3.cell? ⟨R, 1, none⟩ = some (.int .i64 i') := B4.out.cell 1
                have mq1 := B4.out.frozen 1
                have zg4 : g < w3.heap.size := by omega
                clear bat GVV GB3 hp rrd x0 x1 x2 x3 x4 x5 x6 x7 x8 r8
                cases ro with
                | none =>
                  obtain ⟨rfl, rfl⟩ := rno rfl
                  have TE : T = (none, i', c2) := HT2.out.symm
                  subst TE
                  clear HT2 HT rno ryes rgb
                  go_wp2_with fail
                  go_quiet (fail)
                  go_wp2_with fail
                  (try rw [Exit.noGoto_ret])
                  change bodyPost _ _ _ _ _ _
                  simp [bodyPost, results, Try.results48, go_sem]
                  exact ⟨G4.out.ext (by repeat (first | with_reducible exact Ext.refl _ | with_reducible apply Ext.drew | with_reducible apply Ext.drewN | with_reducible apply Ext.alloc | ((with_reducible refine Ext.setCell ?_ ?_ _); rotate_left; focus (first | (simp; done) | (simp; omega) | omega)) | with_reducible refine Ext.tr ?_ x1 | with_reducible refine Ext.tr ?_ x2 | with_reducible refine Ext.tr ?_ x3 | with_reducible refine Ext.tr ?_ x4 | with_reducible refine Ext.tr ?_ x5 | with_reducible refine Ext.tr ?_ x6 | with_reducible refine Ext.tr ?_ x7 | with_reducible refine Ext.tr ?_ x8 | with_reducible refine Ext.tr ?_ xd | with_reducible assumption)), RD4.out.ext (by repeat (first | with_reducible exact Ext.refl _ | with_reducible apply Ext.drew | with_reducible apply Ext.drewN | with_reducible apply Ext.alloc | ((with_reducible refine Ext.setCell ?_ ?_ _); rotate_left; focus (first | (simp; done) | (simp; omega) | omega)) | with_reducible refine Ext.tr ?_ x1 | with_reducible refine Ext.tr ?_ x2 | with_reducible refine Ext.tr ?_ x3 | with_reducible refine Ext.tr ?_ x4 | with_reducible refine Ext.tr ?_ x5 | with_reducible refine Ext.tr ?_ x6 | with_reducible refine Ext.tr ?_ x7 | with_reducible refine Ext.tr ?_ x8 | with_reducible refine Ext.tr ?_ xd | with_reducible assumption)), fun _ => ⟨rfl, rfl⟩, fun L h => (by cases h)⟩
                | some bl =>
                  obtain ⟨rfl, ly⟩ := ryes bl rfl
                  obtain ⟨la2, lca, rfl⟩ := ly.form
                  have LY := Lib.hid ly
                  clear rno ryes ly
                  simp only at HT2
                  rcases Nat.lt_or_ge i' ls.length with hl2 | hg2
                  · have eqz : ((i' : Int) == (ls.length : Int)) = false := by simp; omega
                    have hiz : (i' : Int) < (ls.length : Int) := by omega
                    obtain ⟨b1', o1', e1', hc1'⟩ := LR.out (by intro e; have := congrArg List.length e; rw [strs_len] at this; simp at this; rw [this] at hl2; simp at hl2)
                    cases e1'
                    have f5 := G4.out.cell ((hc1' i' (by rw [strs_len]; exact hl2)).trans (show (strs ls)[i']? = some (.string (ba ls[i'])) by simp [strs, hl2])) (OFF.out b1 rfl)
                    have zf5 := cell_lt f5
                    simp only at zf5
                    have HL2 := Lib.hid (show ls[i']? = some ls[i'] from List.getElem?_eq_getElem hl2)
                    clear hc1'
                    generalize ls[i'] = s2 at *
                    rw [HL2.out] at HT2
                    obtain ⟨S2, hS2, -, -, -, LS2⟩ := str_of s2
                    rw [hS2] at f5
                    clear hS2
                    by_cases hE : s2 = endB
                    · have E1 : (S2.toList == [101, 110, 100]) = true := by rw [LS2.out, hE]; rfl
                      have E2 : (S2.toList != [101, 110, 100]) = false := by rw [bne, E1]; rfl
                      rw [if_pos (by rw [hE])] at HT2
                      clear LS2 hE HL2
                      go_wp2_with fail
                      go_quiet (fail)
                      obtain ⟨J2, hJ2⟩ : ∃ J2 : Nat, i' + 1 = J2 := ⟨_, rfl⟩
                      have wj2 : IntKind.i64.wrap ((i' : Int) + 1) = (J2 : Int) := by rw [IntKind.wrap_i64]; omega
                      rw [hJ2] at HT2
                      obtain ⟨Vd, hVd⟩ : ∃ Vd : World, w3.drewN nq = Vd := ⟨_, rfl⟩
                      have xd : Ext w3 Vd := by rw [← hVd]; exact (Ext.refl w3).drewN nq
                      have sd : w3.heap.size = Vd.heap.size := by rw [← hVd]; simp
                      rw [hVd]
                      replace u0 := xd.cell u0
                      replace u1 := xd.cell u1
                      replace u2 := xd.cell u2
                      replace u3 := xd.cell u3
                      replace u4 := xd.cell u4
                      replace u5 := xd.cell u5
                      replace u6 := xd.cell u6
                      replace u7 := xd.cell u7
                      have v8d := xd.frozen u8 v8
                      replace u8 := xd.cell u8
                      have mq1d := xd.frozen m1 mq1
                      replace m1 := xd.cell m1
                      have zgd : g < Vd.heap.size := cell_lt u0
                      have zRd : R < Vd.heap.size := cell_lt m1
                      have G5a := Lib.hid (G4.out.ext xd)
                      have GV5a := Lib.hid (GV4.out.ext xd)
                      have B5a := Lib.hid (B4.out.ext xd)
                      have LY5a := Lib.hid (LY.out.ext xd)
                      clear hVd xd m0 mq1 v8 G4 GV4 B4 LY RD4 f5 E1 E2
                      obtain ⟨V5, hV5⟩ : ∃ V5 : World, (Vd.setCell ⟨g, 8, none⟩ (.slice la2 bl.length lca)).setCell ⟨R, 1, none⟩ (.int .i64 (J2 : Int)) = V5 := ⟨_, rfl⟩
                      go_upto_region 16 with (fail)
                      have gv5 : GB V V5 R := by rw [← hV5]; exact (GV5a.out.far (o := 8) hg).set 1 _
                      have G3 : Hid (GB w V5 R) := Lib.hid (by rw [← hV5]; exact (G5a.out.far (o := 8) (Nat.le_trans zb2 hg)).set 1 _)
                      have A3 := Lib.hid (ACV.out.gb gv5 zR)
                      have B3 := Lib.hid (show Blk V5 R 96 #[.slice (some ⟨b1, o1, none⟩) ls.length lc, .int .i64 J2, .int .i64 c2] by rw [← hV5]; exact (B5a.out.far (p := ⟨g, 8, none⟩) (fun e => hgR e.symm) _).set_ 1 _)
                      have s5 : V5.heap.size = Vd.heap.size := by rw [← hV5]; simp
                      have zgv : g < V5.heap.size := by omega
                      have t0 : V5.cell? ⟨g, 0, none⟩ = some (.int .i64 F'.kind) := by rw [← hV5]; simp [go_sem, u0]
                      have t1 : V5.cell? ⟨g, 1, none⟩ = some (.int .i64 F'.inn) := by rw [← hV5]; simp [go_sem, u1]
                      have t2 : V5.cell? ⟨g, 2, none⟩ = some (.int .i64 F'.out) := by rw [← hV5]; simp [go_sem, u2]
                      have t3 : V5.cell? ⟨g, 3, none⟩ = some (.int .i64 F'.size) := by rw [← hV5]; simp [go_sem, u3]
                      have t4 : V5.cell? ⟨g, 4, none⟩ = some (.int .i64 F'.stride) := by rw [← hV5]; simp [go_sem, u4]
                      have t5 : V5.cell? ⟨g, 5, none⟩ = some (.int .i64 F'.pad) := by rw [← hV5]; simp [go_sem, u5]
                      have t6 : V5.cell? ⟨g, 6, none⟩ = some (.int .i64 F'.percent) := by rw [← hV5]; simp [go_sem, u6]
                      have t7 : V5.cell? ⟨g, 7, none⟩ = some (.int .i64 F'.heads) := by rw [← hV5]; simp [go_sem, u7]
                      have t8 : V5.cell? ⟨g, 8, none⟩ = some (.slice la2 bl.length lca) := by rw [← hV5]; simp [go_sem, u8]
                      have zd4 : w3.heap.size = Vd.heap.size := sd
                      have LYB : Hid (MyLays (fun b => w.heap.size ≤ b ∧ b < V5.heap.size ∧ (Value.slice ua acc.length uc).ownBlock ≠ some b) V5 (e0 + 1) (.slice la2 bl.length lca) bl) := Lib.hid (LY5a.out.keep (fun b hb => ⟨by have := hb.1; omega, by rw [s5]; have := hb.2; omega, fun e => by have := OB2.out b e; have := hb.1; omega⟩) (fun b hb hlt => by
                        have hb1 := hb.1
                        rw [← hV5, Below.heap_setCell _ ⟨R, 1, none⟩ _ b (by show b ≠ R; omega), Below.heap_setCell _ ⟨g, 8, none⟩ _ b (by show b ≠ g; omega)]))
                      clear hV5 s5 zd4 sd u0 u1 u2 u3 u4 u5 u6 u7 u8 v8d mq1d m1 G5a GV5a B5a LY5a gv5 wj2
                      obtain ⟨ps, own, hps, hel⟩ := A3.out.is
                      have OWN := Lib.hid own
                      have hn2 : acc.length + 1 ≤ maxLen := by unfold maxLen; omega
                      have hn3 : (acc.length + 1) * 88 ≤ 140737488355328 := by omega
                      have hbase : w.heap.size ≤ (V5.alloc (.cells (layA F' (.slice la2 bl.length lca)) 105)).heap.size := by rw [World.size_alloc]; have := G3.out.size; omega
                      have hlo : ∀ q, (Value.slice ua acc.length uc).ownBlock = some q → w.heap.size ≤ q := fun q hq => (own.lt q hq).1
                      have SN := Lib.hid (fun w1 v' => AccAt.snoc (w := V5) (W := V5.alloc (.cells (layA F' (.slice la2 bl.length lca)) 105)) (w1 := w1) (v' := v') (bv := (.slice la2 bl.length lca)) (f := F') (b := bl) hps rfl hel ((Ext.refl _).alloc _))
                      clear own hel hps
                      go_wp2_with (at_builtin; refine (show Hid _ from ?_).out)
                      refine Lib.hid ?_
                      refine wpList_append_own_at _ rfl _ _ 26 rfl w.heap.size 105 i0 _ 9 88 Try.underlying26 hi0 hz0 hz1 hz2 rfl (by decide) _ _ _ rfl (own_old OWN.out ((Ext.refl _).alloc _)) ⟨V5.heap.size, 0, none⟩ 1 1 (layA F' (.slice la2 bl.length lca)).toList rfl rfl (newsL_1 _ _ _ _) (oneL_1 _ _ _ _) hn2 hn3 hbase ?_
                      intro v' w4 hown hgrow _ hob
                      have A4 := Lib.hid (SN.out w4 v' hgrow hown hob ⟨_, _, _, rfl⟩ LYB.out)
                      have G4 := Lib.hid ((G3.out.ext ((Ext.refl V5).alloc (.cells (layA F' (.slice la2 bl.length lca)) 105))).grown hgrow hlo)
                      have B4 := Lib.hid ((B3.out.alloc (.cells (layA F' (.slice la2 bl.length lca)) 105)).grown hgrow (fun e => by have := hlo R e.symm; omega))
                      have MZ0 := Lib.hid (show (intOf ((wr.cell? ⟨R, 1, none⟩).getD (.int .i64 0))) = (j : Int) by rw [BLKM.out]; rfl)
                      have MZ1 := Lib.hid (show (intOf ((w4.cell? ⟨R, 1, none⟩).getD (.int .i64 0))) = (J2 : Int) by rw [B4.out.cell 1]; rfl)
                      clear SN hown hgrow hob OWN A3 G3 B3
                      go_wp2_with fail
                      refine ⟨⟨fz, J2, c2, acc ++ [.mk F' bl], by omega, by omega, by omega, by simp; omega, HT2.out, G4.out, B4.out, A4.out⟩, ?_⟩
                      rw [MZ1.out, MZ0.out]
                      simp
                      omega
                    · have E1 : (S2.toList == [101, 110, 100]) = false := by rw [LS2.out]; simpa [endB] using hE
                      have E2 : (S2.toList != [101, 110, 100]) = true := by rw [bne, E1]; rfl
                      rw [if_neg (fun e => hE (Option.some.inj e))] at HT2
                      have TE : T = (none, i', c2) := HT2.out.symm
                      subst TE
                      clear HT2 HT LS2 hE HL2
                      go_wp2_with fail
                      go_quiet (fail)
                      go_wp2_with fail
                      (try rw [Exit.noGoto_ret])
                      change bodyPost _ _ _ _ _ _
                      simp [bodyPost, results, Try.results48, go_sem]
                      exact ⟨G4.out.ext (by repeat (first | with_reducible exact Ext.refl _ | with_reducible apply Ext.drew | with_reducible apply Ext.drewN | with_reducible apply Ext.alloc | ((with_reducible refine Ext.setCell ?_ ?_ _); rotate_left; focus (first | (simp; done) | (simp; omega) | omega)) | with_reducible refine Ext.tr ?_ x1 | with_reducible refine Ext.tr ?_ x2 | with_reducible refine Ext.tr ?_ x3 | with_reducible refine Ext.tr ?_ x4 | with_reducible refine Ext.tr ?_ x5 | with_reducible refine Ext.tr ?_ x6 | with_reducible refine Ext.tr ?_ x7 | with_reducible refine Ext.tr ?_ x8 | with_reducible refine Ext.tr ?_ xd | with_reducible assumption)), RD4.out.ext (by repeat (first | with_reducible exact Ext.refl _ | with_reducible apply Ext.drew | with_reducible apply Ext.drewN | with_reducible apply Ext.alloc | ((with_reducible refine Ext.setCell ?_ ?_ _); rotate_left; focus (first | (simp; done) | (simp; omega) | omega)) | with_reducible refine Ext.tr ?_ x1 | with_reducible refine Ext.tr ?_ x2 | with_reducible refine Ext.tr ?_ x3 | with_reducible refine Ext.tr ?_ x4 | with_reducible refine Ext.tr ?_ x5 | with_reducible refine Ext.tr ?_ x6 | with_reducible refine Ext.tr ?_ x7 | with_reducible refine Ext.tr ?_ x8 | with_reducible refine Ext.tr ?_ xd | with_reducible assumption)), fun _ => ⟨rfl, rfl⟩, fun L h => (by cases h)⟩
                  · have eqz : ((i' : Int) == (ls.length : Int)) = true := by simp; omega
                    rw [List.getElem?_eq_none hg2, if_neg (by simp)] at HT2
                    have TE : T = (none, i', c2) := HT2.out.symm
                    subst TE
                    clear HT2 HT
                    go_wp2_with fail
                    go_quiet (fail)
                    go_wp2_with fail
                    (try rw [Exit.noGoto_ret])
                    change bodyPost _ _ _ _ _ _
                    simp [bodyPost, results, Try.results48, go_sem]
                    exact ⟨G4.out.ext (by repeat (first | with_reducible exact Ext.refl _ | with_reducible apply Ext.drew | with_reducible apply Ext.drewN | with_reducible apply Ext.alloc | ((with_reducible refine Ext.setCell ?_ ?_ _); rotate_left; focus (first | (simp; done) | (simp; omega) | omega)) | with_reducible refine Ext.tr ?_ x1 | with_reducible refine Ext.tr ?_ x2 | with_reducible refine Ext.tr ?_ x3 | with_reducible refine Ext.tr ?_ x4 | with_reducible refine Ext.tr ?_ x5 | with_reducible refine Ext.tr ?_ x6 | with_reducible refine Ext.tr ?_ x7 | with_reducible refine Ext.tr ?_ x8 | with_reducible refine Ext.tr ?_ xd | with_reducible assumption)), RD4.out.ext (by repeat (first | with_reducible exact Ext.refl _ | with_reducible apply Ext.drew | with_reducible apply Ext.drewN | with_reducible apply Ext.alloc | ((with_reducible refine Ext.setCell ?_ ?_ _); rotate_left; focus (first | (simp; done) | (simp; omega) | omega)) | with_reducible refine Ext.tr ?_ x1 | with_reducible refine Ext.tr ?_ x2 | with_reducible refine Ext.tr ?_ x3 | with_reducible refine Ext.tr ?_ x4 | with_reducible refine Ext.tr ?_ x5 | with_reducible refine Ext.tr ?_ x6 | with_reducible refine Ext.tr ?_ x7 | with_reducible refine Ext.tr ?_ x8 | with_reducible refine Ext.tr ?_ xd | with_reducible assumption)), fun _ => ⟨rfl, rfl⟩, fun L h => (by cases h)⟩
            · have kz : (F'.kind == 13) = false := by simpa using hk
              rw [if_neg (show ¬ (count' = 64 ∨ F'.kind = 13 ∧ deep = 4) by rintro (h | ⟨h, -⟩); exact hc h; exact hk h), if_neg hk] at HT2
              clear hk gb1
              go_upto_region 10 with (fail)
              obtain ⟨V3, hV3⟩ : ∃ V3 : World, (wy.setCell ⟨R, 2, none⟩ (.int .i64 (C : Int))).setCell ⟨R, 1, none⟩ (.int .i64 (J : Int)) = V3 := ⟨_, rfl⟩
              have zg3 : g < V3.heap.size := by rw [← hV3]; simpa using zg
              rw [hV3] at BL3 RD3 GB3 AC3 x0 x1 x2 x3 x4 x5 x6 x7 x8 r8 ⊢
              clear hV3 y0 y1 y2 y3 y4 y5 y6 y7 y8 z8 l0 l1 l2 GB2 AC2 BL2 RD2 q1 q2
              have A3 := Lib.hid AC3.out
              have G3 := Lib.hid GB3.out
              have B3 := Lib.hid BL3.out
              have LYB : Hid (MyLays (fun b => w.heap.size ≤ b ∧ b < V3.heap.size ∧ (Value.slice ua acc.length uc).ownBlock ≠ some b) V3 e (.slice none 0 0) []) := Lib.hid (MyLays.nil _ _ _)
              clear AC3 GB3 BL3
              obtain ⟨ps, own, hps, hel⟩ := A3.out.is
              have OWN := Lib.hid own
              have hn2 : acc.length + 1 ≤ maxLen := by unfold maxLen; omega
              have hn3 : (acc.length + 1) * 88 ≤ 140737488355328 := by omega
              have hbase : w.heap.size ≤ (V3.alloc (.cells (layA F' (.slice none 0 0)) 105)).heap.size := by rw [World.size_alloc]; have := G3.out.size; omega
              have hlo : ∀ q, (Value.slice ua acc.length uc).ownBlock = some q → w.heap.size ≤ q := fun q hq => (own.lt q hq).1
              have SN := Lib.hid (fun w1 v' => AccAt.snoc (w := V3) (W := V3.alloc (.cells (layA F' (.slice none 0 0)) 105)) (w1 := w1) (v' := v') (bv := (.slice none 0 0)) (f := F') (b := []) hps rfl hel ((Ext.refl _).alloc _))
              clear own hel hps
              go_wp2_with (at_builtin; refine (show Hid _ from ?_).out)
              refine Lib.hid ?_
              refine wpList_append_own_at _ rfl _ _ 26 rfl w.heap.size 105 i0 _ 9 88 Try.underlying26 hi0 hz0 hz1 hz2 rfl (by decide) _ _ _ rfl (own_old OWN.out ((Ext.refl _).alloc _)) ⟨V3.heap.size, 0, none⟩ 1 1 (layA F' (.slice none 0 0)).toList rfl rfl (newsL_1 _ _ _ _) (oneL_1 _ _ _ _) hn2 hn3 hbase ?_
              intro v' w4 hown hgrow _ hob
              have A4 := Lib.hid (SN.out w4 v' hgrow hown hob ⟨_, _, _, rfl⟩ LYB.out)
              have G4 := Lib.hid ((G3.out.ext ((Ext.refl V3).alloc (.cells (layA F' (.slice none 0 0)) 105))).grown hgrow hlo)
              have B4 := Lib.hid ((B3.out.alloc (.cells (layA F' (.slice none 0 0)) 105)).grown hgrow (fun e => by have := hlo R e.symm; omega))
              have MZ0 := Lib.hid (show (intOf ((wr.cell? ⟨R, 1, none⟩).getD (.int .i64 0))) = (j : Int) by rw [BLKM.out]; rfl)
              have MZ1 := Lib.hid (show (intOf ((w4.cell? ⟨R, 1, none⟩).getD (.int .i64 0))) = (J : Int) by rw [B4.out.cell 1]; rfl)
              clear SN hown hgrow hob OWN A3 G3 B3
              go_wp2_with fail
              refine ⟨⟨fz, J, C, acc ++ [.mk F' []], by omega, by omega, by omega, by simp; omega, HT2.out, G4.out, B4.out, A4.out⟩, ?_⟩
              rw [MZ1.out, MZ0.out]
              simp
              omega
    · obtain rfl : j = ls.length := by omega
      have TE : T = (some acc, ls.length, count') := by have := HT2.out; rw [List.getElem?_eq_none (Nat.le_refl _)] at this; exact this.symm
      subst TE
      clear HT2 HT
      have hm : acc.length ≤ 100000 := by omega
      go_wp2_with fail
      go_quiet (fail)
      go_wp2_with fail
      (try rw [Exit.noGoto_ret])
      change bodyPost _ _ _ _ _ _
      simp [bodyPost, results, Try.results48, go_sem]
      exact ⟨GBX.out.ext (by repeat (first | with_reducible exact Ext.refl _ | with_reducible apply Ext.drew | with_reducible apply Ext.drewN | with_reducible apply Ext.alloc | ((with_reducible refine Ext.setCell ?_ ?_ _); rotate_left; focus (first | (simp; done) | (simp; omega) | omega)) | with_reducible refine Ext.tr ?_ x1 | with_reducible refine Ext.tr ?_ x2 | with_reducible refine Ext.tr ?_ x3 | with_reducible refine Ext.tr ?_ x4 | with_reducible refine Ext.tr ?_ x5 | with_reducible refine Ext.tr ?_ x6 | with_reducible refine Ext.tr ?_ x7 | with_reducible refine Ext.tr ?_ x8 | with_reducible refine Ext.tr ?_ xd | with_reducible assumption)), RD.out.ext (by repeat (first | with_reducible exact Ext.refl _ | with_reducible apply Ext.drew | with_reducible apply Ext.drewN | with_reducible apply Ext.alloc | ((with_reducible refine Ext.setCell ?_ ?_ _); rotate_left; focus (first | (simp; done) | (simp; omega) | omega)) | with_reducible refine Ext.tr ?_ x1 | with_reducible refine Ext.tr ?_ x2 | with_reducible refine Ext.tr ?_ x3 | with_reducible refine Ext.tr ?_ x4 | with_reducible refine Ext.tr ?_ x5 | with_reducible refine Ext.tr ?_ x6 | with_reducible refine Ext.tr ?_ x7 | with_reducible refine Ext.tr ?_ x8 | with_reducible refine Ext.tr ?_ xd | with_reducible assumption)), fun h => (by cases h), fun L h => (by cases h; exact ⟨rfl, (ACC.out.ext (by repeat (first | with_reducible exact Ext.refl _ | with_reducible apply Ext.drew | with_reducible apply Ext.drewN | with_reducible apply Ext.alloc | ((with_reducible refine Ext.setCell ?_ ?_ _); rotate_left; focus (first | (simp; done) | (simp; omega) | omega)) | with_reducible refine Ext.tr ?_ x1 | with_reducible refine Ext.tr ?_ x2 | with_reducible refine Ext.tr ?_ x3 | with_reducible refine Ext.tr ?_ x4 | with_reducible refine Ext.tr ?_ x5 | with_reducible refine Ext.tr ?_ x6 | with_reducible refine Ext.tr ?_ x7 | with_reducible refine Ext.tr ?_ x8 | with_reducible refine Ext.tr ?_ xd | with_reducible assumption))).lays hm⟩)⟩
theorem bodyR_any (e : Nat) : ∀ deep, deep + e = 4 → BodyOkR e deep := by
  induction e with
  | zero => intro deep hd; exact fun {_ _ _ _ _ _} => bodyR_step 0 deep hd (fun _ h => by omega)
  | succ e ih =>
    intro deep hd
    have IH : ∀ e', e + 1 = e' + 1 → BodyOkR e' (deep + 1) := by
      intro e' h
      have he : e' = e := by omega
      rw [he]
      exact fun {_ _ _ _ _ _} => ih (deep + 1) (by omega)
    exact fun {_ _ _ _ _ _} => bodyR_step (e + 1) deep hd IH
end Go.Proofs.Ytkdfenkpfffcaaa
