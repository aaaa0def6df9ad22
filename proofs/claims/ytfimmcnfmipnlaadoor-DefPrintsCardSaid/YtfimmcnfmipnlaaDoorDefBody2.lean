/- (*def.reader).body: the walk. -/
import Derived.Test.YtfimmcnfmipnlaaDoorDefBody
import Derived.Maps.AppendAt
namespace Go.Proofs.YtfimmcnfmipnlaaDoor
open Go.RowKit
set_option maxHeartbeats 4000000 in
set_option maxRecDepth 100000 in
theorem body_step (e deep : Nat) (hd : deep + e = 4) (IH : ∀ e', e = e' + 1 → BodyOk e' (deep + 1)) : BodyOk e deep := by
  intro R v LL i left w h hl hw hleft hi fu hfu
  obtain ⟨i0, hi0, hz0, hz1, hz2⟩ := info_parts lay_info
  have LI := Lib.hid h.lines
  have zR := h.cells.2.2.2.2.2
  have HB0 := Lib.hid h.blk
  have HW := Lib.hid hw
  obtain ⟨T, hT⟩ : ∃ T, bodyP LL fu deep i left [] = T := ⟨_, rfl⟩
  rw [hT]
  have HT := Lib.hid hT
  have hdz : (deep : Int) ≤ 4 := by omega
  obtain ⟨la, lc, rfl, -, -, lr⟩ := LI.out
  have LR := Lib.hid lr
  clear h hw hT lr
  go_enter Tryd.func55, Tryd.ntmps55
  go_wp2_with fail
  go_step3
  go_wp2_with fail
  go_step3
  go_wp2_with fail
  go_loopw [4] (fun l wr => ∃ (fu' j left' : Nat) (acc : List Lay), LL.length - j + 1 ≤ fu' ∧ j ≤ LL.length ∧ left' ≤ 64 ∧ acc.length + left' ≤ 64 ∧ bodyP LL fu' deep j left' acc = T ∧ GB w wr R ∧ Blk wr R 71 #[.slice la LL.length lc, .int .i64 j, .int .i64 left'] ∧ AccAt w.heap.size wr e l acc) (fun _ wr => LL.length + 1 - (intOf ((wr.cell? ⟨R, 1, none⟩).getD (.int .i64 0))).toNat)
  case atStart => exact ⟨fu, i, left, [], hfu, hi, hleft, by simpa using hleft, HT.out, GB.refl _ _, HB0.out, AccAt.nil _ _ _⟩
  case round =>
    obtain ⟨fu', j, left', acc, hfu', hj, hl1, hl2, hT, hgb, hblk, hacc⟩ := hrel
    obtain ⟨fz, rfl⟩ : ∃ fz, fu' = fz + 1 := ⟨fu' - 1, by omega⟩
    have GBX := Lib.hid hgb
    have BLK := Lib.hid hblk
    have ACC := Lib.hid hacc
    have RD := Lib.hid (show ReadAt wr R (.slice la LL.length lc) LL j left' from ⟨hblk, LI.out.gb hgb⟩)
    obtain ⟨ua, uc, rfl⟩ := hacc.form
    have c0 : wr.cell? ⟨R, 0, none⟩ = some (.slice la LL.length lc) := hblk.cell 0
    have c1 : wr.cell? ⟨R, 1, none⟩ = some (.int .i64 j) := hblk.cell 1
    have c2 : wr.cell? ⟨R, 2, none⟩ = some (.int .i64 left') := hblk.cell 2
    have BLKM := Lib.hid c1
    have q1 := hblk.frozen 1
    have q2 := hblk.frozen 2
    have zr := hblk.lt
    have MO := Lib.hid (fun u (x : Ext wr u) => more_any (RD.out.ext x))
    unfold bodyP at hT
    have HT2 := Lib.hid hT
    clear hT hgb hblk hacc
    rcases Nat.lt_or_ge j LL.length with hlt | hge
    · have dm : decide (j < LL.length) = true := decide_eq_true hlt
      rw [dm] at MO
      obtain ⟨b1, o1, rfl, hb1, hc1⟩ := LR.out (fun e => by rw [e] at hlt; simp at hlt)
      obtain ⟨a2, c2', f1, f2, f3⟩ := hc1 j hlt
      have f1' := GBX.out.cell f1 hb1
      have zf := cell_lt f1'
      simp only at zf
      have F2 := Lib.hid (f2.gb GBX.out (fun q e => by cases a2 with | none => cases e | some q' => cases e; exact f3 _ rfl))
      have HL := Lib.hid (show LL[j]? = some LL[j] from List.getElem?_eq_getElem hlt)
      have WJ := Lib.hid (fun x (hx : x ∈ LL[j]) => HW.out _ (List.getElem_mem hlt) x hx)
      have hjz : (j : Int) < (LL.length : Int) := by omega
      have F3 := Lib.hid f3
      clear hc1 f1 f2 f3 dm
      generalize LL[j] = W at *
      rw [HL.out] at HT2
      cases W with
      | nil =>
        have TE : T = (none, j, left') := HT2.out.symm
        subst TE
        clear HT2 HT HL WJ ACC hfu'
        go_wp2_with fail
        refine (MO.out _ (by repeat (first | with_reducible exact Ext.refl _ | with_reducible apply Ext.drew | with_reducible apply Ext.drewN | with_reducible apply Ext.alloc | ((with_reducible refine Ext.setCell ?_ ?_ _); rotate_left; focus (first | (simp; done) | (simp; omega) | omega)) | with_reducible refine Ext.tr ?_ x1 | with_reducible refine Ext.tr ?_ x3 | with_reducible refine Ext.tr ?_ hx | with_reducible assumption))).mono ?_
        rintro e' w1 ⟨rfl, x1⟩
        have RD1 := Lib.hid (RD.out.ext x1)
        have G1 := Lib.hid (GBX.out.ext x1)
        have k0 := x1.cell c0
        have k1 := x1.cell c1
        have kf := x1.cell f1'
        have zw1 := x1.size
        clear c0 c1 c2 q1 q2 f1' x1 MO
        go_wp2_with fail
        go_quiet (fail)
        go_wp2_with fail
        rw [Exit.noGoto_ret]
        change bodyPost _ _ _ _ _ _
        simp [bodyPost, results, Tryd.results55, go_sem]
        exact ⟨G1.out.ext (by repeat (first | with_reducible exact Ext.refl _ | with_reducible apply Ext.drew | with_reducible apply Ext.drewN | with_reducible apply Ext.alloc | ((with_reducible refine Ext.setCell ?_ ?_ _); rotate_left; focus (first | (simp; done) | (simp; omega) | omega)) | with_reducible refine Ext.tr ?_ x1 | with_reducible refine Ext.tr ?_ x3 | with_reducible refine Ext.tr ?_ hx | with_reducible assumption)), RD1.out.ext (by repeat (first | with_reducible exact Ext.refl _ | with_reducible apply Ext.drew | with_reducible apply Ext.drewN | with_reducible apply Ext.alloc | ((with_reducible refine Ext.setCell ?_ ?_ _); rotate_left; focus (first | (simp; done) | (simp; omega) | omega)) | with_reducible refine Ext.tr ?_ x1 | with_reducible refine Ext.tr ?_ x3 | with_reducible refine Ext.tr ?_ hx | with_reducible assumption)), fun _ => ⟨rfl, rfl⟩, fun L h => (by cases h)⟩
      | cons x ws =>
        obtain ⟨b2, o2, rfl, hc2⟩ : ∃ b2 o2, a2 = some ⟨b2, o2, none⟩ ∧ ∀ k, k < (strs (x :: ws)).length → wr.cell? ⟨b2, o2 + k, none⟩ = (strs (x :: ws))[k]? := by
          obtain ⟨a', c', e', -, -, h3⟩ := F2.out
          injection e' with e1 e2 e3
          subst e1
          exact h3 (by simp [strs])
        have g0 : wr.cell? ⟨b2, o2, none⟩ = some (.string (ba x)) := hc2 0 (by simp [strs])
        have zg := cell_lt g0
        simp only at zg
        have RV := Lib.hid (fun u (y : Ext wr u) => F2.out.ext y)
        obtain ⟨S, hS, -, -, -, LS⟩ := str_of x
        rw [hS] at g0
        have hb2 : b2 ≠ R := F3.out _ rfl
        clear hc2 hS F3
        simp only at HT2
        by_cases hx : x = endB ∨ x = lossB
        · have TE : T = (some acc, j, left') := by have := HT2.out; rw [if_pos hx] at this; exact this.symm
          subst TE
          clear HT2 HT HL WJ hfu' RV F2
          have ee : (S.toList == [101, 110, 100]) = true ∨ ((S.toList == [101, 110, 100]) = false ∧ (S.toList == [108, 111, 115, 115]) = true) := by
            rw [LS.out]
            rcases hx with rfl | rfl
            · exact .inl (by decide)
            · exact .inr ⟨by decide, by decide⟩
          clear hx LS
          rcases ee with e1 | ⟨e1, e2⟩
          all_goals
            go_wp2_with fail
            refine (MO.out _ (by repeat (first | with_reducible exact Ext.refl _ | with_reducible apply Ext.drew | with_reducible apply Ext.drewN | with_reducible apply Ext.alloc | ((with_reducible refine Ext.setCell ?_ ?_ _); rotate_left; focus (first | (simp; done) | (simp; omega) | omega)) | with_reducible refine Ext.tr ?_ x1 | with_reducible refine Ext.tr ?_ x3 | with_reducible refine Ext.tr ?_ hx | with_reducible assumption))).mono ?_
            rintro e' w1 ⟨rfl, x1⟩
            have RD1 := Lib.hid (RD.out.ext x1)
            have G1 := Lib.hid (GBX.out.ext x1)
            have A1 := Lib.hid (ACC.out.ext x1)
            have hm : acc.length ≤ 100000 := by omega
            have k0 := x1.cell c0
            have k1 := x1.cell c1
            have kf := x1.cell f1'
            have kg := x1.cell g0
            have zw1 := x1.size
            clear c0 c1 c2 q1 q2 f1' g0 x1 MO RD GBX ACC
            go_wp2_with fail
            go_quiet (fail)
            go_wp2_with fail
            rw [Exit.noGoto_ret]
            change bodyPost _ _ _ _ _ _
            simp [bodyPost, results, Tryd.results55, go_sem]
            exact ⟨G1.out.ext (by repeat (first | with_reducible exact Ext.refl _ | with_reducible apply Ext.drew | with_reducible apply Ext.drewN | with_reducible apply Ext.alloc | ((with_reducible refine Ext.setCell ?_ ?_ _); rotate_left; focus (first | (simp; done) | (simp; omega) | omega)) | with_reducible refine Ext.tr ?_ x1 | with_reducible refine Ext.tr ?_ x3 | with_reducible refine Ext.tr ?_ hx | with_reducible assumption)), RD1.out.ext (by repeat (first | with_reducible exact Ext.refl _ | with_reducible apply Ext.drew | with_reducible apply Ext.drewN | with_reducible apply Ext.alloc | ((with_reducible refine Ext.setCell ?_ ?_ _); rotate_left; focus (first | (simp; done) | (simp; omega) | omega)) | with_reducible refine Ext.tr ?_ x1 | with_reducible refine Ext.tr ?_ x3 | with_reducible refine Ext.tr ?_ hx | with_reducible assumption)), fun h => (by cases h), fun L h => (by cases h; exact ⟨rfl, (A1.out.ext (by repeat (first | with_reducible exact Ext.refl _ | with_reducible apply Ext.drew | with_reducible apply Ext.drewN | with_reducible apply Ext.alloc | ((with_reducible refine Ext.setCell ?_ ?_ _); rotate_left; focus (first | (simp; done) | (simp; omega) | omega)) | with_reducible refine Ext.tr ?_ x1 | with_reducible refine Ext.tr ?_ x3 | with_reducible refine Ext.tr ?_ hx | with_reducible assumption))).lays hm⟩)⟩
        · have e1 : (S.toList == [101, 110, 100]) = false := by
            rw [LS.out]; simp; exact fun h => hx (.inl h)
          have e2 : (S.toList == [108, 111, 115, 115]) = false := by
            rw [LS.out]; simp; exact fun h => hx (.inr h)
          rw [if_neg hx] at HT2
          by_cases hl0 : left' = 0
          · have TE : T = (none, j, left') := by have := HT2.out; rw [if_pos hl0] at this; exact this.symm
            subst TE
            have hlz : ((left' : Int) == 0) = true := by simp; omega
            clear HT2 HT HL WJ hfu' RV F2 ACC hx LS hl0
            go_wp2_with fail
            refine (MO.out _ (by repeat (first | with_reducible exact Ext.refl _ | with_reducible apply Ext.drew | with_reducible apply Ext.drewN | with_reducible apply Ext.alloc | ((with_reducible refine Ext.setCell ?_ ?_ _); rotate_left; focus (first | (simp; done) | (simp; omega) | omega)) | with_reducible refine Ext.tr ?_ x1 | with_reducible refine Ext.tr ?_ x3 | with_reducible refine Ext.tr ?_ hx | with_reducible assumption))).mono ?_
            rintro e' w1 ⟨rfl, x1⟩
            have RD1 := Lib.hid (RD.out.ext x1)
            have G1 := Lib.hid (GBX.out.ext x1)
            have k0 := x1.cell c0
            have k1 := x1.cell c1
            have k2 := x1.cell c2
            have kf := x1.cell f1'
            have kg := x1.cell g0
            have zw1 := x1.size
            clear c0 c1 c2 q1 q2 f1' g0 x1 MO RD GBX
            go_wp2_with fail
            go_quiet (fail)
            go_wp2_with fail
            rw [Exit.noGoto_ret]
            change bodyPost _ _ _ _ _ _
            simp [bodyPost, results, Tryd.results55, go_sem]
            exact ⟨G1.out.ext (by repeat (first | with_reducible exact Ext.refl _ | with_reducible apply Ext.drew | with_reducible apply Ext.drewN | with_reducible apply Ext.alloc | ((with_reducible refine Ext.setCell ?_ ?_ _); rotate_left; focus (first | (simp; done) | (simp; omega) | omega)) | with_reducible refine Ext.tr ?_ x1 | with_reducible refine Ext.tr ?_ x3 | with_reducible refine Ext.tr ?_ hx | with_reducible assumption)), RD1.out.ext (by repeat (first | with_reducible exact Ext.refl _ | with_reducible apply Ext.drew | with_reducible apply Ext.drewN | with_reducible apply Ext.alloc | ((with_reducible refine Ext.setCell ?_ ?_ _); rotate_left; focus (first | (simp; done) | (simp; omega) | omega)) | with_reducible refine Ext.tr ?_ x1 | with_reducible refine Ext.tr ?_ x3 | with_reducible refine Ext.tr ?_ hx | with_reducible assumption)), fun _ => ⟨rfl, rfl⟩, fun L h => (by cases h)⟩
          · rw [if_neg hl0] at HT2
            have hlz : ((left' : Int) == 0) = false := by simp; omega
            have wl : IntKind.i64.wrap ((left' : Int) - 1) = ((left' - 1 : Nat) : Int) := by rw [IntKind.wrap_i64]; omega
            clear hx
            go_wp2_with fail
            refine (MO.out _ (by repeat (first | with_reducible exact Ext.refl _ | with_reducible apply Ext.drew | with_reducible apply Ext.drewN | with_reducible apply Ext.alloc | ((with_reducible refine Ext.setCell ?_ ?_ _); rotate_left; focus (first | (simp; done) | (simp; omega) | omega)) | with_reducible refine Ext.tr ?_ x1 | with_reducible refine Ext.tr ?_ x3 | with_reducible refine Ext.tr ?_ hx | with_reducible assumption))).mono ?_
            rintro e' w1 ⟨rfl, x1⟩
            have RD1 := Lib.hid (RD.out.ext x1)
            have G1 := Lib.hid (GBX.out.ext x1)
            have A1 := Lib.hid (ACC.out.ext x1)
            have B1 := Lib.hid (BLK.out.ext x1)
            have RV1 := Lib.hid (fun u (y : Ext w1 u) => RV.out u (x1.tr y))
            have k0 := x1.cell c0
            have k1 := x1.cell c1
            have k2 := x1.cell c2
            have kq1 := x1.frozen c1 q1
            have kq2 := x1.frozen c2 q2
            have kf := x1.cell f1'
            have kg := x1.cell g0
            have zw1 := x1.size
            clear c0 c1 c2 q1 q2 f1' g0 x1 MO RD GBX ACC BLK RV F2
            go_wp2_with fail
            go_quiet (fail)
            go_wp2_with fail
            obtain ⟨V1, hV1⟩ : ∃ V1 : World, (w1.drewN nq).setCell ⟨R, 2, none⟩ (.int .i64 ((left' - 1 : Nat) : Int)) = V1 := ⟨_, rfl⟩
            have gb1 : GB w1 V1 R := by rw [← hV1]; exact ((GB.refl w1 R).ext ((Ext.refl _).drewN _)).set 2 _
            have RD2 := Lib.hid (show ReadAt V1 R (.slice (some ⟨b1, o1, none⟩) LL.length lc) LL j (left' - 1) by rw [← hV1]; exact (RD1.out.ext ((Ext.refl _).drewN _)).left _)
            have G2 := Lib.hid (G1.out.trans gb1)
            have A2 := Lib.hid (A1.out.gb gb1 zR)
            have B2 := Lib.hid (show Blk V1 R 71 #[.slice (some ⟨b1, o1, none⟩) LL.length lc, .int .i64 j, .int .i64 ((left' - 1 : Nat) : Int)] by rw [← hV1]; exact (B1.out.drewN _).set_ 2 _)
            have RV2 := Lib.hid (fun u (y : Ext V1 u) => ((RV1.out w1 (Ext.refl _)).gb gb1 (fun q e => by cases e; exact hb2)).ext y)
            have zv := gb1.size
            rw [hV1]
            clear hV1 gb1 RD1 G1 A1 B1 RV1 k0 k1 k2 kq1 kq2 kf kg
            have IS := Lib.hid (fun u (y : Ext V1 u) => is_any (x := nameB 13) (RV2.out u y))
            obtain ⟨l', hl'⟩ : ∃ l', left' - 1 = l' := ⟨_, rfl⟩
            rw [hl'] at RD2 B2 HT2 ⊢
            have hl64 : acc.length + 1 + l' ≤ 64 := by omega
            refine (show Calls Tryd.prog 65 #[.slice (some ⟨b2, o2, none⟩) (ws.length + 1) c2', .string (ba (nameB 13))] _ _ from (IS.out _ (Ext.refl _)).mono ?_)
            rintro e' w' ⟨rfl, rfl⟩
            clear hlz wl hl0 hl' IS
            by_cases hr : x :: ws = [nameB 13]
            · rw [decide_eq_true hr]
              rw [if_neg (fun h => h hr)] at HT2
              have hdd : deep = 4 ∨ ∃ e0, e = e0 + 1 := by rcases Nat.eq_zero_or_pos e with h | h; exact .inl (by omega); exact .inr ⟨e - 1, by omega⟩
              clear hr WJ RV2 HL
              rcases hdd with h4 | ⟨e0, rfl⟩
              · have TE : T = (none, j, l') := by have := HT2.out; rw [if_pos h4] at this; exact this.symm
                subst TE
                have hdz4 : ((deep : Int) == 4) = true := by simp; omega
                clear HT HT2 h4
                go_wp2_with fail
                rw [Exit.noGoto_ret]
                change bodyPost _ _ _ _ _ _
                simp [bodyPost, results, Tryd.results55, go_sem]
                exact ⟨G2.out.ext (by repeat (first | with_reducible exact Ext.refl _ | with_reducible apply Ext.drew | with_reducible apply Ext.drewN | with_reducible apply Ext.alloc | ((with_reducible refine Ext.setCell ?_ ?_ _); rotate_left; focus (first | (simp; done) | (simp; omega) | omega)) | with_reducible refine Ext.tr ?_ x1 | with_reducible refine Ext.tr ?_ x3 | with_reducible refine Ext.tr ?_ hx | with_reducible assumption)), RD2.out.ext (by repeat (first | with_reducible exact Ext.refl _ | with_reducible apply Ext.drew | with_reducible apply Ext.drewN | with_reducible apply Ext.alloc | ((with_reducible refine Ext.setCell ?_ ?_ _); rotate_left; focus (first | (simp; done) | (simp; omega) | omega)) | with_reducible refine Ext.tr ?_ x1 | with_reducible refine Ext.tr ?_ x3 | with_reducible refine Ext.tr ?_ hx | with_reducible assumption)), fun _ => ⟨rfl, rfl⟩, fun L h => (by cases h)⟩
              · have hdz4 : ((deep : Int) == 4) = false := by simp; omega
                have IH' : Hid (BodyOk e0 (deep + 1)) := Lib.hid (IH e0 rfl)
                rw [if_neg (by omega)] at HT2
                have k1 : V1.cell? ⟨R, 1, none⟩ = some (.int .i64 j) := B2.out.cell 1
                have kq1 := B2.out.frozen 1
                obtain ⟨J, hJ⟩ : ∃ J : Nat, j + 1 = J := ⟨_, rfl⟩
                obtain ⟨de, hde⟩ : ∃ de : Nat, deep + 1 = de := ⟨_, rfl⟩
                have wj : IntKind.i64.wrap ((j : Int) + 1) = (J : Int) := by rw [IntKind.wrap_i64]; omega
                have wd : IntKind.i64.wrap ((deep : Int) + 1) = (de : Int) := by rw [IntKind.wrap_i64]; omega
                rw [hJ, hde] at HT2
                rw [hde] at IH'
                have gb2 := (GB.refl V1 R).set 1 (.int .i64 (J : Int))
                have IHC := Lib.hid (IH'.out (RD2.out.at J) hl HW.out (show l' ≤ 64 by omega) (show J ≤ LL.length by omega) fz (show LL.length - J + 1 ≤ fz by omega))
                have G3 := Lib.hid (G2.out.trans gb2)
                have A3 := Lib.hid (A2.out.gb gb2 zR)
                have OB3 := Lib.hid (show ∀ q, (Value.slice ua acc.length uc).ownBlock = some q → q < (V1.setCell ⟨R, 1, none⟩ (.int .i64 (J : Int))).heap.size by obtain ⟨ps, own, -, -⟩ := A3.out.is; exact fun q hq => (own.lt q hq).2)
                clear IH' gb2 G2 A2 RD2
                go_wp2_with fail
                refine IHC.out.mono ?_
                rintro e' w3 ⟨lv, ok, rfl, res⟩
                clear IHC
                obtain ⟨⟨ro, i', l2⟩, hp⟩ : ∃ p, bodyP LL fz de J l' [] = p := ⟨_, rfl⟩
                have bat := bodyP_at LL fz de J l' []
                rw [hp] at res HT2 bat
                obtain ⟨rgb, rrd, rno, ryes⟩ := res
                simp only at rrd rno ryes bat
                have hi2 : i' ≤ LL.length := bat.2.2 (by omega)
                have G4 := Lib.hid (G3.out.trans rgb)
                have RD4 := Lib.hid rrd
                have A4 := Lib.hid (A3.out.gb rgb zR)
                have zr4 := rrd.blk.lt
                have zb3 := G3.out.size
                clear G3 A3 hp rrd
                cases ro with
                | none =>
                  obtain ⟨rfl, rfl⟩ := rno rfl
                  have TE : T = (none, i', l2) := HT2.out.symm
                  subst TE
                  clear HT2 HT rno ryes rgb
                  go_wp2_with fail
                  go_quiet (fail)
                  go_wp2_with fail
                  rw [Exit.noGoto_ret]
                  change bodyPost _ _ _ _ _ _
                  simp [bodyPost, results, Tryd.results55, go_sem]
                  exact ⟨G4.out.ext (by repeat (first | with_reducible exact Ext.refl _ | with_reducible apply Ext.drew | with_reducible apply Ext.drewN | with_reducible apply Ext.alloc | ((with_reducible refine Ext.setCell ?_ ?_ _); rotate_left; focus (first | (simp; done) | (simp; omega) | omega)) | with_reducible refine Ext.tr ?_ x1 | with_reducible refine Ext.tr ?_ x3 | with_reducible refine Ext.tr ?_ hx | with_reducible assumption)), RD4.out.ext (by repeat (first | with_reducible exact Ext.refl _ | with_reducible apply Ext.drew | with_reducible apply Ext.drewN | with_reducible apply Ext.alloc | ((with_reducible refine Ext.setCell ?_ ?_ _); rotate_left; focus (first | (simp; done) | (simp; omega) | omega)) | with_reducible refine Ext.tr ?_ x1 | with_reducible refine Ext.tr ?_ x3 | with_reducible refine Ext.tr ?_ hx | with_reducible assumption)), fun _ => ⟨rfl, rfl⟩, fun L h => (by cases h)⟩
                | some bl =>
                  obtain ⟨rfl, ly⟩ := ryes bl rfl
                  obtain ⟨la, lca, rfl⟩ := ly.form
                  have LY := Lib.hid ly
                  have MO2 := Lib.hid (fun u (x : Ext w3 u) => more_q (RD4.out.ext x))
                  clear rno ryes ly
                  simp only at HT2
                  rcases Nat.lt_or_ge i' LL.length with hl2 | hg2
                  · have dm : decide (i' < LL.length) = true := decide_eq_true hl2
                    rw [dm] at MO2
                    obtain ⟨a5, c5, e5, -, -, h5⟩ := RD4.out.lines
                    injection e5 with e51 _ e53
                    obtain ⟨b5, o5, e6, -, hc5⟩ := h5 (fun e => by rw [e] at hl2; simp at hl2)
                    rw [e6] at e51
                    injection e51 with e51
                    injection e51 with e52 e54 _
                    obtain ⟨a6, c6, f1, f2, f3⟩ := hc5 i' hl2
                    rw [← e52, ← e54] at f1
                    have zf5 := cell_lt f1
                    simp only at zf5
                    have IS2 := Lib.hid (fun u (y : Ext w3 u) => is_any (x := endB) (f2.ext y))
                    have HL2 := Lib.hid (show LL[i']? = some LL[i'] from List.getElem?_eq_getElem hl2)
                    have B4 := Lib.hid RD4.out.blk
                    have c0' : w3.cell? ⟨R, 0, none⟩ = some (.slice (some ⟨b1, o1, none⟩) LL.length lc) := B4.out.cell 0
                    have c1' : w3.cell? ⟨R, 1, none⟩ = some (.int .i64 i') := B4.out.cell 1
                    have q1' := B4.out.frozen 1
                    have hiz : (i' : Int) < (LL.length : Int) := by omega
                    clear dm hc5 f3 h5 e6 e52 e53 e54
                    generalize LL[i'] = W2 at *
                    by_cases hE : W2 = [endB]
                    · subst hE
                      rw [decide_eq_true (rfl : [endB] = [endB])] at IS2
                      rw [if_pos HL2.out] at HT2
                      go_wp2_with fail
                      go_quiet (first | (go_at_call 53; exact Calls.quiet_of (MO2.out _ (by repeat (first | with_reducible exact Ext.refl _ | with_reducible apply Ext.drew | with_reducible apply Ext.drewN | with_reducible apply Ext.alloc | ((with_reducible refine Ext.setCell ?_ ?_ _); rotate_left; focus (first | (simp; done) | (simp; omega) | omega)) | with_reducible refine Ext.tr ?_ x1 | with_reducible refine Ext.tr ?_ x3 | with_reducible refine Ext.tr ?_ hx | with_reducible assumption)))) | (go_at_call 65; exact q0 (IS2.out _ (by repeat (first | with_reducible exact Ext.refl _ | with_reducible apply Ext.drew | with_reducible apply Ext.drewN | with_reducible apply Ext.alloc | ((with_reducible refine Ext.setCell ?_ ?_ _); rotate_left; focus (first | (simp; done) | (simp; omega) | omega)) | with_reducible refine Ext.tr ?_ x1 | with_reducible refine Ext.tr ?_ x3 | with_reducible refine Ext.tr ?_ hx | with_reducible assumption)))))
                      obtain ⟨J2, hJ2⟩ : ∃ J2 : Nat, i' + 1 = J2 := ⟨_, rfl⟩
                      have wj2 : IntKind.i64.wrap ((i' : Int) + 1) = (J2 : Int) := by rw [IntKind.wrap_i64]; omega
                      rw [hJ2] at HT2
                      have hx3 := (Ext.refl w3).drewN nq
                      have gbx := ((GB.refl w3 R).ext hx3).set 1 (.int .i64 (J2 : Int))
                      have G5 := Lib.hid (G4.out.trans gbx)
                      have A5 := Lib.hid (A4.out.gb gbx zR)
                      have B5 := Lib.hid (show Blk ((w3.drewN nq).setCell ⟨R, 1, none⟩ (.int .i64 (J2 : Int))) R 71 #[.slice (some ⟨b1, o1, none⟩) LL.length lc, .int .i64 J2, .int .i64 l2] from (B4.out.drewN _).set_ 1 _)
                      have LY5 := Lib.hid (LY.out.keep (A' := fun b => w.heap.size ≤ b ∧ b < (w3.drewN nq).heap.size ∧ (Value.slice ua acc.length uc).ownBlock ≠ some b) (fun b hb => ⟨by omega, hb.2, fun e => absurd (OB3.out b e) (Nat.not_lt.2 hb.1)⟩) (fun b hb hlt => gbx.block b hlt (fun e => by replace e := Option.some.inj e; have h1 : _ ≤ b := hb.1; rw [e] at h1; exact absurd zR (Nat.not_lt.2 (Nat.le_trans zb3 h1)))))
                      have zV5 : R < (w3.drewN nq).heap.size := by simp; omega
                      obtain ⟨V5, hV5⟩ : ∃ V5 : World, (w3.drewN nq).setCell ⟨R, 1, none⟩ (.int .i64 (J2 : Int)) = V5 := ⟨_, rfl⟩
                      have HV5 := Lib.hid hV5
                      have sV5 : V5.heap.size = w3.heap.size := by rw [← hV5]; simp
                      rw [hV5] at G5 A5 B5 LY5
                      have LY6 : Hid (MyLays (fun b => w.heap.size ≤ b ∧ b < V5.heap.size ∧ (Value.slice ua acc.length uc).ownBlock ≠ some b) V5 (e0 + 1) (.slice la bl.length lca) bl) := Lib.hid (LY5.out.mono (fun b hb => ⟨hb.1, by rw [sV5]; exact hb.2.1, hb.2.2⟩))
                      clear hV5 LY5
                      obtain ⟨ps, own, hps, hel⟩ := A5.out.is
                      have OWN := Lib.hid own
                      have hn2 : acc.length + 1 ≤ maxLen := by unfold maxLen; omega
                      have hn3 : (acc.length + 1) * 88 ≤ 140737488355328 := by omega
                      have hbase : w.heap.size ≤ (V5.alloc (.cells (layA (LayF.kind0 13) (.slice la bl.length lca)) 49)).heap.size := by rw [World.size_alloc]; have := G5.out.size; omega
                      have hlo : ∀ q, (Value.slice ua acc.length uc).ownBlock = some q → w.heap.size ≤ q := fun q hq => (own.lt q hq).1
                      have SN := Lib.hid (fun w1 v' => AccAt.snoc (w := V5) (W := V5.alloc (.cells (layA (LayF.kind0 13) (.slice la bl.length lca)) 49)) (w1 := w1) (v' := v') (bv := .slice la bl.length lca) (f := LayF.kind0 13) (b := bl) hps rfl hel ((Ext.refl _).alloc _))
                      clear own hel hps
                      go_wp2_with (at_builtin; refine (show Hid _ from ?_).out)
                      rw [HV5.out]
                      refine Lib.hid ?_
                      refine wpList_append_own_at _ rfl _ _ 24 rfl w.heap.size 49 i0 _ 9 88 Tryd.underlying24 hi0 hz0 hz1 hz2 rfl (by decide) _ _ _ rfl (own_old OWN.out ((Ext.refl _).alloc _)) ⟨w3.heap.size, 0, none⟩ 1 1 (layA (LayF.kind0 13) (.slice la bl.length lca)).toList rfl rfl (by rw [← sV5]; exact newsL_1 _ _ _ _) (oneL_1 _ _ _ _) hn2 hn3 hbase ?_
                      intro v' w6 hown hgrow _ hob
                      have A6 := Lib.hid (SN.out w6 v' hgrow hown hob ⟨_, _, _, rfl⟩ LY6.out)
                      have G6 := Lib.hid ((G5.out.ext ((Ext.refl V5).alloc (.cells (layA (LayF.kind0 13) (.slice la bl.length lca)) 49))).grown hgrow hlo)
                      have B6 := Lib.hid ((B5.out.alloc (.cells (layA (LayF.kind0 13) (.slice la bl.length lca)) 49)).grown hgrow (fun e => by have := hlo R e.symm; omega))
                      have MZ0 := Lib.hid (show (intOf ((wr.cell? ⟨R, 1, none⟩).getD (.int .i64 0))) = (j : Int) by rw [BLKM.out]; rfl)
                      have MZ1 := Lib.hid (show (intOf ((w6.cell? ⟨R, 1, none⟩).getD (.int .i64 0))) = (J2 : Int) by rw [B6.out.cell 1]; rfl)
                      clear SN hown hgrow hob OWN
                      go_wp2_with fail
                      refine ⟨⟨fz, J2, l2, acc ++ [.mk (LayF.kind0 13) bl], by omega, by omega, by omega, by simp; omega, HT2.out, G6.out, B6.out, A6.out⟩, ?_⟩
                      rw [MZ1.out, MZ0.out]
                      simp
                      omega
                    · rw [if_neg (fun e => hE (by rw [HL2.out] at e; exact Option.some.inj e))] at HT2
                      rw [decide_eq_false hE] at IS2
                      have TE : T = (none, i', l2) := HT2.out.symm
                      subst TE
                      clear HT2 HT
                      go_wp2_with fail
                      go_quiet (first | (go_at_call 53; exact Calls.quiet_of (MO2.out _ (by repeat (first | with_reducible exact Ext.refl _ | with_reducible apply Ext.drew | with_reducible apply Ext.drewN | with_reducible apply Ext.alloc | ((with_reducible refine Ext.setCell ?_ ?_ _); rotate_left; focus (first | (simp; done) | (simp; omega) | omega)) | with_reducible refine Ext.tr ?_ x1 | with_reducible refine Ext.tr ?_ x3 | with_reducible refine Ext.tr ?_ hx | with_reducible assumption)))) | (go_at_call 65; exact q0 (IS2.out _ (by repeat (first | with_reducible exact Ext.refl _ | with_reducible apply Ext.drew | with_reducible apply Ext.drewN | with_reducible apply Ext.alloc | ((with_reducible refine Ext.setCell ?_ ?_ _); rotate_left; focus (first | (simp; done) | (simp; omega) | omega)) | with_reducible refine Ext.tr ?_ x1 | with_reducible refine Ext.tr ?_ x3 | with_reducible refine Ext.tr ?_ hx | with_reducible assumption)))))
                      go_wp2_with fail
                      rw [Exit.noGoto_ret]
                      change bodyPost _ _ _ _ _ _
                      simp [bodyPost, results, Tryd.results55, go_sem]
                      exact ⟨G4.out.ext (by repeat (first | with_reducible exact Ext.refl _ | with_reducible apply Ext.drew | with_reducible apply Ext.drewN | with_reducible apply Ext.alloc | ((with_reducible refine Ext.setCell ?_ ?_ _); rotate_left; focus (first | (simp; done) | (simp; omega) | omega)) | with_reducible refine Ext.tr ?_ x1 | with_reducible refine Ext.tr ?_ x3 | with_reducible refine Ext.tr ?_ hx | with_reducible assumption)), RD4.out.ext (by repeat (first | with_reducible exact Ext.refl _ | with_reducible apply Ext.drew | with_reducible apply Ext.drewN | with_reducible apply Ext.alloc | ((with_reducible refine Ext.setCell ?_ ?_ _); rotate_left; focus (first | (simp; done) | (simp; omega) | omega)) | with_reducible refine Ext.tr ?_ x1 | with_reducible refine Ext.tr ?_ x3 | with_reducible refine Ext.tr ?_ hx | with_reducible assumption)), fun _ => ⟨rfl, rfl⟩, fun L h => (by cases h)⟩
                  · have dm : decide (i' < LL.length) = false := by simp; omega
                    rw [dm] at MO2
                    rw [if_neg (by rw [List.getElem?_eq_none hg2]; simp)] at HT2
                    have TE : T = (none, i', l2) := HT2.out.symm
                    subst TE
                    clear HT2 HT dm
                    go_wp2_with fail
                    go_quiet (first | (go_at_call 53; exact Calls.quiet_of (MO2.out _ (by repeat (first | with_reducible exact Ext.refl _ | with_reducible apply Ext.drew | with_reducible apply Ext.drewN | with_reducible apply Ext.alloc | ((with_reducible refine Ext.setCell ?_ ?_ _); rotate_left; focus (first | (simp; done) | (simp; omega) | omega)) | with_reducible refine Ext.tr ?_ x1 | with_reducible refine Ext.tr ?_ x3 | with_reducible refine Ext.tr ?_ hx | with_reducible assumption)))))
                    go_wp2_with fail
                    rw [Exit.noGoto_ret]
                    change bodyPost _ _ _ _ _ _
                    simp [bodyPost, results, Tryd.results55, go_sem]
                    exact ⟨G4.out.ext (by repeat (first | with_reducible exact Ext.refl _ | with_reducible apply Ext.drew | with_reducible apply Ext.drewN | with_reducible apply Ext.alloc | ((with_reducible refine Ext.setCell ?_ ?_ _); rotate_left; focus (first | (simp; done) | (simp; omega) | omega)) | with_reducible refine Ext.tr ?_ x1 | with_reducible refine Ext.tr ?_ x3 | with_reducible refine Ext.tr ?_ hx | with_reducible assumption)), RD4.out.ext (by repeat (first | with_reducible exact Ext.refl _ | with_reducible apply Ext.drew | with_reducible apply Ext.drewN | with_reducible apply Ext.alloc | ((with_reducible refine Ext.setCell ?_ ?_ _); rotate_left; focus (first | (simp; done) | (simp; omega) | omega)) | with_reducible refine Ext.tr ?_ x1 | with_reducible refine Ext.tr ?_ x3 | with_reducible refine Ext.tr ?_ hx | with_reducible assumption)), fun _ => ⟨rfl, rfl⟩, fun L h => (by cases h)⟩
            · rw [decide_eq_false hr]
              rw [if_pos (fun h => hr h)] at HT2
              have ON := Lib.hid (fun u (y : Ext V1 u) => one_any (r := .pointer (some ⟨R, 0, none⟩)) (RV2.out u y) (fun y hy => WJ.out y (by simp [hy])))
              clear hr
              cases ho : oneS (x :: ws) with
              | none =>
                rw [ho] at ON HT2
                simp only [oneV, layA] at ON
                have TE : T = (none, j, l') := HT2.out.symm
                subst TE
                clear HT HT2 ho
                go_wp2_with fail
                refine (ON.out _ (Ext.refl _)).mono ?_
                rintro e' w3 ⟨rfl, x3⟩
                clear ON
                go_wp2_with fail
                rw [Exit.noGoto_ret]
                change bodyPost _ _ _ _ _ _
                simp [bodyPost, results, Tryd.results55, go_sem]
                exact ⟨G2.out.ext (by repeat (first | with_reducible exact Ext.refl _ | with_reducible apply Ext.drew | with_reducible apply Ext.drewN | with_reducible apply Ext.alloc | ((with_reducible refine Ext.setCell ?_ ?_ _); rotate_left; focus (first | (simp; done) | (simp; omega) | omega)) | with_reducible refine Ext.tr ?_ x1 | with_reducible refine Ext.tr ?_ x3 | with_reducible refine Ext.tr ?_ hx | with_reducible assumption)), RD2.out.ext (by repeat (first | with_reducible exact Ext.refl _ | with_reducible apply Ext.drew | with_reducible apply Ext.drewN | with_reducible apply Ext.alloc | ((with_reducible refine Ext.setCell ?_ ?_ _); rotate_left; focus (first | (simp; done) | (simp; omega) | omega)) | with_reducible refine Ext.tr ?_ x1 | with_reducible refine Ext.tr ?_ x3 | with_reducible refine Ext.tr ?_ hx | with_reducible assumption)), fun _ => ⟨rfl, rfl⟩, fun L h => (by cases h)⟩
              | some f =>
                rw [ho] at ON HT2
                simp only [oneV, layA] at ON
                clear ho
                go_wp2_with fail
                refine (ON.out _ (Ext.refl _)).mono ?_
                rintro e' w3 ⟨rfl, x3⟩
                clear ON
                go_upto_region 13 with (fail)
                obtain ⟨V3, hV3⟩ : ∃ V3 : World, w3.alloc (.cells #[.int .i64 f.kind, .int .i64 f.inn, .int .i64 f.out, .int .i64 f.size, .int .i64 f.stride, .int .i64 f.pad, .int .i64 f.percent, .int .i64 f.heads, .slice none 0 0] 49) = V3 := ⟨_, rfl⟩
                have x3' : Ext V1 V3 := by rw [← hV3]; exact x3.alloc _
                have bx : Blk V3 w3.heap.size 49 (layA f (.slice none 0 0)) := by rw [← hV3]; exact Blk.new w3 _ _
                obtain ⟨y0, y1, y2, y3, y4, y5, y6, y7, y8, -⟩ := bx.lay
                have A3 := Lib.hid (A2.out.ext x3')
                have G3 := Lib.hid (G2.out.ext x3')
                have B3 := Lib.hid (B2.out.ext x3')
                have zg3 := bx.lt
                rw [hV3]
                obtain ⟨gx, hgx⟩ : ∃ gx, w3.heap.size = gx := ⟨_, rfl⟩
                rw [hgx] at y0 y1 y2 y3 y4 y5 y6 y7 y8 zg3 ⊢
                clear hV3 bx x3' x3 A2 G2 B2 RV2 RD2 hgx
                obtain ⟨ps, own, hps, hel⟩ := A3.out.is
                have OWN := Lib.hid own
                have hn2 : acc.length + 1 ≤ maxLen := by unfold maxLen; omega
                have hn3 : (acc.length + 1) * 88 ≤ 140737488355328 := by omega
                have hbase : w.heap.size ≤ (V3.alloc (.cells (layA f (.slice none 0 0)) 49)).heap.size := by rw [World.size_alloc]; have := G3.out.size; omega
                have hlo : ∀ q, (Value.slice ua acc.length uc).ownBlock = some q → w.heap.size ≤ q := fun q hq => (own.lt q hq).1
                have SN := Lib.hid (fun w1 v' => AccAt.snoc (w := V3) (W := V3.alloc (.cells (layA f (.slice none 0 0)) 49)) (w1 := w1) (v' := v') (bv := .slice none 0 0) (f := f) (b := []) hps rfl hel ((Ext.refl _).alloc _))
                clear own hel hps
                go_wp2_with (at_builtin; refine (show Hid _ from ?_).out)
                refine Lib.hid ?_
                refine wpList_append_own_at _ rfl _ _ 24 rfl w.heap.size 49 i0 _ 9 88 Tryd.underlying24 hi0 hz0 hz1 hz2 rfl (by decide) _ _ _ rfl (own_old OWN.out ((Ext.refl _).alloc _)) ⟨V3.heap.size, 0, none⟩ 1 1 (layA f (.slice none 0 0)).toList rfl rfl (newsL_1 _ _ _ _) (oneL_1 _ _ _ _) hn2 hn3 hbase ?_
                intro v' w4 hown hgrow _ hob
                have A4 := Lib.hid (SN.out w4 v' hgrow hown hob ⟨_, _, _, rfl⟩ (MyLays.nil _ _ _))
                have G4 := (G3.out.ext ((Ext.refl V3).alloc (.cells (layA f (.slice none 0 0)) 49))).grown hgrow hlo
                have B4 := ((B3.out.alloc (.cells (layA f (.slice none 0 0)) 49)).grown hgrow (fun e => by have := hlo R e.symm; omega))
                have k1 : w4.cell? ⟨R, 1, none⟩ = some (.int .i64 j) := B4.cell 1
                have kq1 := B4.frozen 1
                have zr4 := B4.lt
                obtain ⟨J, hJ⟩ : ∃ J : Nat, j + 1 = J := ⟨_, rfl⟩
                rw [hJ] at HT2
                have G5 := Lib.hid (G4.set 1 (.int .i64 (J : Int)))
                have B5 := Lib.hid (B4.set_ 1 (.int .i64 (J : Int)))
                have A5 := Lib.hid (A4.out.gb ((GB.refl w4 R).set 1 (.int .i64 (J : Int))) zR)
                have wj : IntKind.i64.wrap ((j : Int) + 1) = (J : Int) := by rw [IntKind.wrap_i64]; omega
                have MZ : (intOf (((w4.setCell ⟨R, 1, none⟩ (.int .i64 (J : Int))).cell? ⟨R, 1, none⟩).getD (.int .i64 0))) = (J : Int) := by rw [B5.out.cell 1]; rfl
                have MZ0 := Lib.hid (show (intOf ((wr.cell? ⟨R, 1, none⟩).getD (.int .i64 0))) = (j : Int) by rw [BLKM.out]; rfl)
                have MZ1 := Lib.hid MZ
                clear MZ SN hown hgrow hob A4 G4 B4 A3 G3 B3 OWN y0 y1 y2 y3 y4 y5 y6 y7 y8
                go_wp2_with fail
                refine ⟨⟨fz, J, l', acc ++ [.mk f []], by omega, by omega, by omega, by simp; omega, HT2.out, G5.out, B5.out, A5.out⟩, ?_⟩
                rw [MZ1.out, MZ0.out]
                simp
                omega
    · obtain rfl : j = LL.length := by omega
      have dm : decide (LL.length < LL.length) = false := by simp
      rw [dm] at MO
      have TE : T = (some acc, LL.length, left') := by have := HT2.out; rw [List.getElem?_eq_none (Nat.le_refl _)] at this; exact this.symm
      subst TE
      clear HT2 HT
      go_wp2_with fail
      refine (MO.out _ (by repeat (first | with_reducible exact Ext.refl _ | with_reducible apply Ext.drew | with_reducible apply Ext.drewN | with_reducible apply Ext.alloc | ((with_reducible refine Ext.setCell ?_ ?_ _); rotate_left; focus (first | (simp; done) | (simp; omega) | omega)) | with_reducible refine Ext.tr ?_ x1 | with_reducible refine Ext.tr ?_ x3 | with_reducible refine Ext.tr ?_ hx | with_reducible assumption))).mono ?_
      rintro e' w1 ⟨rfl, x1⟩
      have RD1 := Lib.hid (RD.out.ext x1)
      have G1 := Lib.hid (GBX.out.ext x1)
      have A1 := Lib.hid (ACC.out.ext x1)
      have hm : acc.length ≤ 100000 := by omega
      clear c0 c1 c2 q1 q2 MO ACC
      go_wp2_with fail
      rw [Exit.noGoto_ret]
      change bodyPost _ _ _ _ _ _
      simp [bodyPost, results, Tryd.results55, go_sem]
      exact ⟨G1.out, RD1.out, fun h => (by cases h), fun L h => (by cases h; exact ⟨rfl, A1.out.lays hm⟩)⟩
theorem body_any (e : Nat) : ∀ deep, deep + e = 4 → BodyOk e deep := by
  induction e with
  | zero => intro deep hd; exact fun {_ _ _ _ _ _} => body_step 0 deep hd (fun _ h => by omega)
  | succ e ih =>
    intro deep hd
    have IH : ∀ e', e + 1 = e' + 1 → BodyOk e' (deep + 1) := by
      intro e' h
      have he : e' = e := by omega
      rw [he]
      exact fun {_ _ _ _ _ _} => ih (deep + 1) (by omega)
    exact fun {_ _ _ _ _ _} => body_step (e + 1) deep hd IH
end Go.Proofs.YtfimmcnfmipnlaaDoor
