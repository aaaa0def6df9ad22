/- DefJoins: the walk. -/
import Derived.Test.YtfimmcnfmipnlaaDoorDefBackLaw3
import Derived.Test.YtfimmcnfmipnlaaDoorDefOpen
import Derived.Test.YtfimmcnfmipnlaaDoorDefUse
import Derived.Test.YtfimmcnfmipnlaaDoorRefMay4
import Derived.Deep.RegionHeld3
import Derived.BigQuiet
namespace Go.Proofs.YtfimmcnfmipnlaaDoor
open Go.RowKit Go.WideShapes Go.ChangeShapes
theorem bare_at {A : Nat → Prop} {n : Nat} {w : World} {iv lv x : Value} {d : DefL} (h : DefAt A n w (.agg #[iv, lv, x]) d) : DefAt A n w (.agg #[iv, .slice none 0 0, .int .i64 1]) d.bare := by
  obtain ⟨a1, c1, a2, c2, e, h1, h2⟩ := h.is
  injection e with e
  injection e with e
  injection e with e1 e
  subst e1
  exact ⟨⟨a1, c1, none, 0, rfl, h1, LaysAt.nil _ _ _ _ _⟩, h.below⟩
theorem only_at {A : Nat → Prop} {n b2 o2 cc : Nat} {w : World} {iv x : Value} {d : DefL} (h : DefAt A n w (.agg #[iv, .slice (some ⟨b2, o2, none⟩) d.layers.length cc, x]) d) {k : Nat} (hk : k < d.layers.length) (c' : Nat) :
    DefAt A n w (.agg #[iv, .slice (some ⟨b2, o2 + k * 9, none⟩) 1 c', .int .i64 1]) (d.only d.layers[k]) := by
  obtain ⟨a1, c1, a2, c2, e, h1, h2⟩ := h.is
  injection e with e
  injection e with e
  injection e with e1 e
  injection e with e2 e
  subst e1
  rw [← e2] at h2
  exact ⟨⟨a1, c1, _, c', rfl, h1, h2.one hk c'⟩, h.below⟩
theorem lays_addr {A : Nat → Prop} {n cc : Nat} {w : World} {iv x : Value} {a : Option Addr} {d : DefL} (h : DefAt A n w (.agg #[iv, .slice a d.layers.length cc, x]) d) {k : Nat} (hk : k < d.layers.length) : ∃ b o, a = some ⟨b, o, none⟩ := by
  obtain ⟨a1, c1, a2, c2, e, h1, h2⟩ := h.is
  injection e with e
  injection e with e
  injection e with e1 e
  injection e with e2 e
  injection e2 with e2 _ _
  subst e2
  cases n with
  | zero => rw [h2.1] at hk; simp at hk
  | succ n =>
    obtain ⟨a', cap, e, h1, h2⟩ := h2
    obtain ⟨b', o', e2, hA, h3⟩ := h2 (by intro e; rw [e] at hk; simp at hk)
    injection e with e3 _ _
    exact ⟨b', o', by rw [e3, e2]⟩
theorem only_print {A : Nat → Prop} {n cc : Nat} {w : World} {iv x : Value} {a2 : Option Addr} {d : DefL} (h : DefAt A n w (.agg #[iv, .slice a2 d.layers.length cc, x]) d) (hT : TabW w) (hg : goodD d = true) {k : Nat} (hk : k < d.layers.length) {Z : ByteArray}
    (hZ : ba (printS (d.only d.layers[k])) = Z) {b2 o2 : Nat} (ha : a2 = some ⟨b2, o2, none⟩) (c' : Nat) :
    Calls Tryd.prog 7 #[.agg #[iv, .slice (some ⟨b2, o2 + k * 9, none⟩) 1 c', .int .i64 1]] w fun e w' => e = .returned (.tuple #[.string Z, .int .i64 0]) ∧ Ext w w' := by
  subst ha
  exact print_good (only_at h hk c') hT (good_only hg hk) hZ
theorem head_len {d : DefL} (h : goodD d = true) : (headT d).length ≤ 40 ∧ (textS d.layers).length ≤ 2560 := by
  obtain ⟨g1, g2, g3, g4, l', g5⟩ := good_parts h
  have := numsT_len d.input (fun x hx => by have := g4 x hx; omega)
  have := texts_len d.layers g5
  refine ⟨?_, by omega⟩
  unfold headT
  simp only [List.length_append, inputB, List.length_cons, List.length_nil]
  omega
theorem take_text_len {L : List Lay} (k : Nat) : (textS (L.take k)).length ≤ (textS L).length := by
  conv => rhs; rw [← List.take_append_drop k L, textS_append]
  simp
theorem one_text_len {L : List Lay} {k : Nat} (h : k < L.length) : (L[k].text).length ≤ (textS L).length := by
  have := take_text_len (L := L) (k + 1)
  rw [textS_take h, List.length_append] at this
  omega
set_option maxHeartbeats 100000000 in
set_option maxRecDepth 100000 in
theorem joins_walk (b o len cap : Nat) (w : World) (_hl : len ≤ 9223372036854775807) (hT : DefsAtC w b o len) (hTab : TabW w) :
    Calls Tryd.prog 3 #[.slice (some ⟨b, o, none⟩) len cap] w fun e w' => e = .returned (.bool true) ∧ Ext w w' := by
  have HT := Lib.hid hT
  have HTW := Lib.hid hTab
  clear hT hTab
  go_enter Tryd.func3, Tryd.ntmps3
  go_wp2_with fail
  go_loopw [3] (fun i wr => ∃ k : Nat, k ≤ len ∧ i = .int .i64 k ∧ Ext w wr) (fun i _ => len - (intOf i).toNat)
  case atStart => exact ⟨0, Nat.zero_le _, rfl, Ext.refl _⟩
  case round =>
    obtain ⟨k, hk, rfl, hext⟩ := hrel
    by_cases hlt : k < len ∧ k < 8
    · obtain ⟨h1, h2⟩ := hlt
      have h1z : (k : Int) < (len : Int) := by omega
      have h2z : (k : Int) < 8 := by omega
      obtain ⟨n, d, iv, lv, c0, c1, c2, RM, D0⟩ := HT.out k h1
      obtain ⟨a1, cc1, a2, cc2, e, hi, hly⟩ := D0.is
      obtain ⟨rfl, rfl⟩ : iv = .slice a1 d.input.length cc1 ∧ lv = .slice a2 d.layers.length cc2 := by injection e with e; injection e with e; injection e with e1 e; injection e with e2 e; exact ⟨e1, e2⟩
      obtain ⟨hlc, hcm⟩ := RM _ _ _ rfl
      replace c0 := hext.cell c0
      replace c1 := hext.cell c1
      replace c2 := hext.cell c2
      have z0 := cell_lt c0
      simp only at z0
      have DA := Lib.hid (D0.ext hext)
      have HV := Lib.hid (fun u (x : Ext wr u) => heavy_any (DA.out.ext x))
      have XWO := Lib.hid hext
      clear e hi hly D0 HT RM
      cases hh : heavyS d with
      | true =>
        rw [hh] at HV
        clear hh
        go_wp2_with fail
        refine (HV.out _ (by repeat (first | with_reducible exact Ext.refl _ | with_reducible apply Ext.drew | with_reducible apply Ext.drewN | with_reducible apply Ext.alloc | ((with_reducible refine Ext.setCell ?_ ?_ _); rotate_left; focus (first | (simp; done) | (simp; omega) | omega)) | with_reducible refine Ext.tr ?_ x1 | with_reducible refine Ext.tr ?_ x2 | with_reducible refine Ext.tr ?_ x3 | with_reducible refine Ext.tr ?_ x4 | with_reducible refine Ext.tr ?_ x5 | with_reducible refine Ext.tr ?_ x6 | with_reducible refine Ext.tr ?_ x9 | with_reducible refine Ext.tr ?_ hx | with_reducible refine Ext.tr ?_ hext | with_reducible assumption))).mono ?_
        rintro e v1 ⟨rfl, x1⟩
        clear HV c0 c1 c2
        go_wp2_with fail
        exact ⟨⟨k + 1, by omega, by go_num, XWO.out.tr (by repeat (first | with_reducible exact Ext.refl _ | with_reducible apply Ext.drew | with_reducible apply Ext.drewN | with_reducible apply Ext.alloc | ((with_reducible refine Ext.setCell ?_ ?_ _); rotate_left; focus (first | (simp; done) | (simp; omega) | omega)) | with_reducible refine Ext.tr ?_ x1 | with_reducible refine Ext.tr ?_ x2 | with_reducible refine Ext.tr ?_ x3 | with_reducible refine Ext.tr ?_ x4 | with_reducible refine Ext.tr ?_ x5 | with_reducible refine Ext.tr ?_ x6 | with_reducible refine Ext.tr ?_ x9 | with_reducible refine Ext.tr ?_ hx | with_reducible refine Ext.tr ?_ hext | with_reducible assumption))⟩, by simp [intOf]; omega⟩
      | false =>
        rw [hh] at HV
        have hct := heavy_count hh
        have MY := Lib.hid (fun u (x : Ext wr u) => mayR_any (DA.out.ext x) hct)
        clear hh hct
        go_wp2_with fail
        refine (HV.out _ (by repeat (first | with_reducible exact Ext.refl _ | with_reducible apply Ext.drew | with_reducible apply Ext.drewN | with_reducible apply Ext.alloc | ((with_reducible refine Ext.setCell ?_ ?_ _); rotate_left; focus (first | (simp; done) | (simp; omega) | omega)) | with_reducible refine Ext.tr ?_ x1 | with_reducible refine Ext.tr ?_ x2 | with_reducible refine Ext.tr ?_ x3 | with_reducible refine Ext.tr ?_ x4 | with_reducible refine Ext.tr ?_ x5 | with_reducible refine Ext.tr ?_ x6 | with_reducible refine Ext.tr ?_ x9 | with_reducible refine Ext.tr ?_ hx | with_reducible refine Ext.tr ?_ hext | with_reducible assumption))).mono ?_
        rintro e v1 ⟨rfl, x1⟩
        obtain ⟨k0, k1, k2, zk⟩ := ((Blk.new wr 26 #[.slice a1 d.input.length cc1, .slice a2 d.layers.length cc2, .int .i64 d.loss]).ext x1).three'
        have X1 : Ext wr v1 := (by repeat (first | with_reducible exact Ext.refl _ | with_reducible apply Ext.drew | with_reducible apply Ext.drewN | with_reducible apply Ext.alloc | ((with_reducible refine Ext.setCell ?_ ?_ _); rotate_left; focus (first | (simp; done) | (simp; omega) | omega)) | with_reducible refine Ext.tr ?_ x1 | with_reducible refine Ext.tr ?_ x2 | with_reducible refine Ext.tr ?_ x3 | with_reducible refine Ext.tr ?_ x4 | with_reducible refine Ext.tr ?_ x5 | with_reducible refine Ext.tr ?_ x6 | with_reducible refine Ext.tr ?_ x9 | with_reducible refine Ext.tr ?_ hx | with_reducible refine Ext.tr ?_ hext | with_reducible assumption))
        clear HV c0 c1 c2 z0 x1
        go_wp2_with fail
        refine (MY.out _ X1).mono ?_
        rintro e v2 ⟨rfl, x2⟩
        clear MY
        replace k0 := x2.cell k0
        replace k1 := x2.cell k1
        replace k2 := x2.cell k2
        replace zk := cell_lt k0
        simp only at zk
        have X2 := X1.tr x2
        clear x2 X1
        cases hg : goodD d with
        | false =>
          clear hg
          go_wp2_with fail
          exact ⟨⟨k + 1, by omega, by go_num, XWO.out.tr X2⟩, by simp [intOf]; omega⟩
        | true =>
          obtain ⟨hhl, htl⟩ := head_len hg
          have PRA := print_all d
          obtain ⟨S, hS, hsz, -, hex, -⟩ := str_of (printS d)
          have PG := Lib.hid (fun u (x : Ext wr u) => print_good (DA.out.ext x) (HTW.out.ext (XWO.out.tr x)) hg hS)
          obtain ⟨H, hH, hHz, -, hHx, -⟩ := str_of (printS d.bare)
          have PB := Lib.hid (fun u (x : Ext wr u) => print_good (bare_at (DA.out.ext x)) (HTW.out.ext (XWO.out.tr x)) (good_bare hg) hH)
          have PO := Lib.hid (fun j (hj : j < d.layers.length) Z (hZ : ba (printS (d.only d.layers[j])) = Z) b2 o2 (ha : a2 = some ⟨b2, o2, none⟩) c' u (x : Ext wr u) => only_print (DA.out.ext x) (HTW.out.ext (XWO.out.tr x)) hg hj hZ ha c')
          have AD := Lib.hid (fun j (hj : j < d.layers.length) => lays_addr DA.out hj)
          rw [print_bare] at hH hHz hHx
          obtain ⟨hd, hhd⟩ : ∃ hd, headT d = hd := ⟨_, rfl⟩
          have POP := Lib.hid (fun j (hj : j < d.layers.length) => print_only d d.layers[j])
          rw [hhd] at PRA hH hHz hHx hhl POP
          obtain ⟨T0, hT0, hTz, -, -, -⟩ := str_of hd
          have xl : xentL.length = 10 := rfl
          have ql : squareL.length = 12 := rfl
          have eS : S.extract 0 hd.length = T0 := by rw [hex.out, ← hT0, List.drop_zero, PRA, List.append_assoc, List.take_left]
          have eH : H.extract 0 hd.length = T0 := by rw [hHx.out, ← hT0, List.drop_zero, List.take_left]
          have zS : S.size ≤ 3000 ∧ hd.length ≤ S.size := by
            rw [hsz, PRA, List.length_append, List.length_append]
            split <;> omega
          have zH : H.size = hd.length + 10 := by rw [hHz, List.length_append, xl]
          obtain ⟨zS1, zS2⟩ := zS
          have ST : (T0.toList != T0.toList) = false := by simp
          obtain ⟨hn, hhn⟩ : ∃ hn, hd.length = hn := ⟨_, rfl⟩
          rw [hhn] at eS eH zH zS2 hhl
          have wn : IntKind.i64.wrap ((H.size : Int) - 10) = (hn : Int) := by rw [IntKind.wrap_i64]; omega
          have g1 : ¬ (hn : Int) < 0 := by omega
          have g2 : ¬ (S.size : Int) < (hn : Int) := by omega
          have g3 : hn ≤ H.size := by omega
          have PRAH := Lib.hid PRA
          have ZH := Lib.hid zH
          have HS := Lib.hid hS
          have HHN := Lib.hid hhn
          have HT0 := Lib.hid hT0
          clear hg hex hHx hH hHz hsz PRA hhd hS hT0 zH hTz hhn xl ql
          go_wp2_with fail
          refine (PG.out _ X2).mono ?_
          rintro e v3 ⟨rfl, x3⟩
          clear PG
          replace k0 := x3.cell k0
          replace k1 := x3.cell k1
          replace k2 := x3.cell k2
          replace zk := cell_lt k0
          simp only at zk
          have X3 := X2.tr x3
          clear x3 X2
          go_wp2_with fail
          refine (PB.out _ X3).mono ?_
          rintro e v4 ⟨rfl, x4⟩
          clear PB
          replace k0 := x4.cell k0
          replace k1 := x4.cell k1
          replace k2 := x4.cell k2
          replace zk := cell_lt k0
          simp only at zk
          have X4 := X3.tr x4
          clear x4 X3
          go_wp2_with fail
          go_cut [76] from 50 to 76 (fun s76 wx => s76 = .bool false ∧ Ext v4 wx)
          case first => as_aux_lemma =>
            go_quiet (first | (go_at_call 8; exact q0 (num26_any _ _)))
            go_wp2_with fail
            go_meet
            exact ⟨by first | rfl | (simp; done) | (simp; omega), (by repeat (first | with_reducible exact Ext.refl _ | with_reducible apply Ext.drew | with_reducible apply Ext.drewN | with_reducible apply Ext.alloc | ((with_reducible refine Ext.setCell ?_ ?_ _); rotate_left; focus (first | (simp; done) | (simp; omega) | omega)) | with_reducible refine Ext.tr ?_ x1 | with_reducible refine Ext.tr ?_ x2 | with_reducible refine Ext.tr ?_ x3 | with_reducible refine Ext.tr ?_ x4 | with_reducible refine Ext.tr ?_ x5 | with_reducible refine Ext.tr ?_ x6 | with_reducible refine Ext.tr ?_ x9 | with_reducible refine Ext.tr ?_ hx | with_reducible refine Ext.tr ?_ hext | with_reducible assumption))⟩
          case rest =>
          obtain ⟨rfl, xq⟩ := hcut
          obtain ⟨vq, hvq⟩ : ∃ vq, vq = wc := ⟨_, rfl⟩
          rw [← hvq] at xq ⊢
          clear hvq
          replace k0 := xq.cell k0
          replace k1 := xq.cell k1
          replace k2 := xq.cell k2
          replace zk := cell_lt k0
          simp only at zk
          replace X4 := X4.tr xq
          clear xq
          go_wp2_with fail
          obtain ⟨g, hgw⟩ : ∃ g, wr.heap.size = g := ⟨_, rfl⟩
          rw [hgw] at k0 k1 k2 zk ⊢
          clear hgw eS eH g1 g2 g3 wn ST zS1 zS2
          go_loopw [10, 11] (fun s c wx => ∃ j : Nat, j ≤ d.layers.length ∧ c = .int .i64 j ∧ s = .string (ba (hd ++ textS (d.layers.take j))) ∧ Ext vq wx) (fun _ c _ => d.layers.length - (intOf c).toNat)
          case atStart => exact ⟨0, Nat.zero_le _, rfl, by rw [List.take_zero, textS, List.append_nil, HT0.out], Ext.refl _⟩
          case round =>
            obtain ⟨j, hj, rfl, rfl, x5⟩ := hrel
            replace k0 := x5.cell k0
            replace k1 := x5.cell k1
            replace k2 := x5.cell k2
            replace zk := cell_lt k0
            simp only at zk
            have X5 := X4.tr x5
            obtain ⟨AA, hA⟩ : ∃ AA, ba (hd ++ textS (List.take j d.layers)) = AA := ⟨_, rfl⟩
            rw [hA]
            have hAA := Lib.hid hA
            clear hA
            rcases Nat.lt_or_ge j d.layers.length with hlt | hge
            · have hjz : (j : Int) < (d.layers.length : Int) := by omega
              obtain ⟨b2, o2, rfl⟩ := AD.out j hlt
              obtain ⟨Z, hZ, hZs, -, hZx, -⟩ := str_of (printS (d.only d.layers[j]))
              have PX := PO.out j hlt Z hZ b2 o2 rfl
              rw [POP.out j hlt] at hZs hZx
              have tl := one_text_len hlt
              have ttl := take_text_len (L := d.layers) j
              have wj : IntKind.i64.wrap ((j : Int) + 1) = (j : Int) + 1 := by unfold maxLen at hcm; rw [IntKind.wrap_i64]; omega
              have jc : (j : Int) + 1 ≤ (cc2 : Int) := by omega
              have j0 : (0 : Int) ≤ (j : Int) := by omega
              have j1 : (j : Int) ≤ (j : Int) + 1 := by omega
              have j2 : (0 : Int) ≤ (j : Int) + 1 := by omega
              have jne : ¬ cc2 = j := by omega
              have PXH := Lib.hid PX
              clear PX PO POP AD hZ
              go_wp2_with fail
              go_cut [12, 13] from 80 to 117 (fun s12 s13 wx => s12 = .string Z ∧ s13 = .int .i64 0 ∧ Ext wr wx)
              case first =>
                go_region_held3 (fun w' => w'.cell? ⟨g, 0, none⟩ = some (.slice a1 d.input.length cc1) ∧ w'.cell? ⟨g, 1, none⟩ = some (.slice (some ⟨b2, o2, none⟩) d.layers.length cc2) ∧ g < w'.heap.size ∧ Ext wr w')
                  (refine ⟨?_, ?_, ?_, ?_⟩ <;> first | (simp [go_sem, *]; done) | omega | (simp at z1; omega) | (simp at z2; omega) | (simp at z3; omega) | (simp at z4; omega) | exact (by repeat (first | with_reducible exact Ext.refl _ | with_reducible apply Ext.drew | with_reducible apply Ext.drewN | with_reducible apply Ext.alloc | ((with_reducible refine Ext.setCell ?_ ?_ _); rotate_left; focus (first | (simp; done) | (simp; omega) | omega)) | with_reducible refine Ext.tr ?_ x1 | with_reducible refine Ext.tr ?_ x2 | with_reducible refine Ext.tr ?_ x3 | with_reducible refine Ext.tr ?_ x4 | with_reducible refine Ext.tr ?_ x5 | with_reducible refine Ext.tr ?_ x6 | with_reducible refine Ext.tr ?_ x9 | with_reducible refine Ext.tr ?_ hx | with_reducible refine Ext.tr ?_ hext | with_reducible assumption)))
                  (first
                    | ((go_at_call 7; refine (PXH.out _ _ (X5.tr (by repeat (first | with_reducible exact Ext.refl _ | with_reducible apply Ext.drew | with_reducible apply Ext.drewN | with_reducible apply Ext.alloc | ((with_reducible refine Ext.setCell ?_ ?_ _); rotate_left; focus (first | (simp; done) | (simp; omega) | omega)) | with_reducible refine Ext.tr ?_ x1 | with_reducible refine Ext.tr ?_ x2 | with_reducible refine Ext.tr ?_ x3 | with_reducible refine Ext.tr ?_ x4 | with_reducible refine Ext.tr ?_ x5 | with_reducible refine Ext.tr ?_ x6 | with_reducible refine Ext.tr ?_ x9 | with_reducible refine Ext.tr ?_ hx | with_reducible refine Ext.tr ?_ hext | with_reducible assumption)))).mono ?_; rintro e v6 ⟨rfl, x6⟩; obtain ⟨c6, f6⟩ := x6.rules; have z6 := x6.size); clear PXH; have y6 : Ext wr v6 := (by repeat (first | with_reducible exact Ext.refl _ | with_reducible apply Ext.drew | with_reducible apply Ext.drewN | with_reducible apply Ext.alloc | ((with_reducible refine Ext.setCell ?_ ?_ _); rotate_left; focus (first | (simp; done) | (simp; omega) | omega)) | with_reducible refine Ext.tr ?_ x1 | with_reducible refine Ext.tr ?_ x2 | with_reducible refine Ext.tr ?_ x3 | with_reducible refine Ext.tr ?_ x4 | with_reducible refine Ext.tr ?_ x5 | with_reducible refine Ext.tr ?_ x6 | with_reducible refine Ext.tr ?_ x9 | with_reducible refine Ext.tr ?_ hx | with_reducible refine Ext.tr ?_ hext | with_reducible assumption)); have n0 := y6.cell k0; have n1 := y6.cell k1; have zm : g < v6.heap.size := cell_lt n0))
                all_goals
                  go_wp2_with fail
                  go_meet
                  exact ⟨rfl, rfl, (by repeat (first | with_reducible exact Ext.refl _ | with_reducible apply Ext.drew | with_reducible apply Ext.drewN | with_reducible apply Ext.alloc | ((with_reducible refine Ext.setCell ?_ ?_ _); rotate_left; focus (first | (simp; done) | (simp; omega) | omega)) | with_reducible refine Ext.tr ?_ x1 | with_reducible refine Ext.tr ?_ x2 | with_reducible refine Ext.tr ?_ x3 | with_reducible refine Ext.tr ?_ x4 | with_reducible refine Ext.tr ?_ x5 | with_reducible refine Ext.tr ?_ x6 | with_reducible refine Ext.tr ?_ x9 | with_reducible refine Ext.tr ?_ hx | with_reducible refine Ext.tr ?_ hext | with_reducible assumption))⟩
              case rest =>
                obtain ⟨rfl, rfl, x6⟩ := hcut
                have X6 := X4.tr (x5.tr x6)
                have x56 := x5.tr x6
                clear PXH k0 k1 k2 zk X5 x5 x6
                obtain ⟨t, ht⟩ : ∃ t, Lay.text d.layers[j] = t := ⟨_, rfl⟩
                have zh := ZH.out
                have hh := HHN.out
                have xl : xentL.length = 10 := rfl
                obtain ⟨m, hm⟩ : ∃ m, hn + t.length = m := ⟨_, rfl⟩
                rw [ht] at tl hZs hZx
                have hzs : Z.size = m + 10 := by rw [hZs, List.length_append, List.length_append]; omega
                have gz : ¬ (Z.size : Int) < (H.size : Int) := by omega
                have wm : IntKind.i64.wrap ((Z.size : Int) - 10) = (m : Int) := by rw [IntKind.wrap_i64]; omega
                have m1 : hn ≤ m := by omega
                have m2 : m ≤ Z.size := by omega
                obtain ⟨TT, hTT⟩ : ∃ TT, ba t = TT := ⟨_, rfl⟩
                have eZ : Z.extract hn m = TT := by
                  rw [hZx.out, ← hTT, ← hm, ← hh, show hd.length + t.length = (hd ++ t).length by rw [List.length_append], List.take_left, List.drop_left]
                have ad : ∀ u : World, (Op.stringOp .add AA TT).run Tryd.prog u = .ok (.string (ba (hd ++ textS (d.layers.take (j + 1))))) u :=
                  add_ba (by rw [← hAA.out, ← hTT, ba_app, textS_take hlt, ht, List.append_assoc]) (by rw [← hAA.out, ← hTT, ba_size, ba_size, List.length_append]; omega)
                obtain ⟨BB, hBB⟩ : ∃ BB, ba (hd ++ textS (d.layers.take (j + 1))) = BB := ⟨_, rfl⟩
                rw [hBB] at ad
                have HBB := Lib.hid hBB.symm
                clear hzs hZs hZx zh hh xl hm ht hTT hBB
                go_wp2_with (go_at_call 8; refine (num26_any _ _).mono ?_; rintro e w' ⟨rfl, rfl⟩)
                exact ⟨⟨j + 1, by omega, by go_num, by rw [HBB.out], x56⟩, by simp [intOf]; omega⟩
            · have hjz : ¬ (j : Int) < (d.layers.length : Int) := by omega
              obtain rfl : j = d.layers.length := by omega
              rw [List.take_length] at hAA
              clear PO POP AD X4 x5
              have zss := congrArg List.length PRAH.out
              have xl : xentL.length = 10 := rfl
              have ql : squareL.length = 12 := rfl
              have hh := HHN.out
              have SE : (S.toList != S.toList) = false := by simp
              by_cases hls : d.loss = 1
              · rw [hls] at k2
                have ad : ∀ u : World, (Op.stringOp .add AA ⟨#[108, 111, 115, 115, 32, 120, 101, 110, 116, 10]⟩).run Tryd.prog u = .ok (.string S) u :=
                  add_ba (by
                    have e := PRAH.out
                    rw [if_pos hls] at e
                    rw [← HS.out, e, ← hAA.out]
                    exact ba_app _ xentL) (by
                    rw [← hAA.out, ba_size, List.length_append]
                    show _ + 10 ≤ _
                    omega)
                clear hls zss xl ql hh
                go_wp2_with fail
                exact ⟨⟨k + 1, by omega, by go_num, XWO.out.tr X5⟩, by simp [intOf]; omega⟩
              · have hlz : (d.loss == 1) = false := by simp; omega
                have ad : ∀ u : World, (Op.stringOp .add AA ⟨#[108, 111, 115, 115, 32, 115, 113, 117, 97, 114, 101, 10]⟩).run Tryd.prog u = .ok (.string S) u :=
                  add_ba (by
                    have e := PRAH.out
                    rw [if_neg hls] at e
                    rw [← HS.out, e, ← hAA.out]
                    exact ba_app _ squareL) (by
                    rw [← hAA.out, ba_size, List.length_append]
                    show _ + 12 ≤ _
                    omega)
                clear hls zss xl ql hh
                go_wp2_with fail
                exact ⟨⟨k + 1, by omega, by go_num, XWO.out.tr X5⟩, by simp [intOf]; omega⟩
    · have hor : ¬ (k : Int) < (len : Int) ∨ ((k : Int) < (len : Int) ∧ ¬ (k : Int) < 8) := by omega
      rcases hor with h1z | ⟨h1z, h2z⟩
      all_goals
        clear HT
        go_wp2_with (go_at_call 9; refine (wakes26 _).mono ?_; rintro e w' ⟨rfl, x9⟩)
        go_ret
        exact ⟨rfl, hext.tr x9⟩
set_option maxRecDepth 100000 in
theorem joins_any {H : Type} {enc : TypeId × Value → H} {w : World} {base : Nat} {v : Value} {d : DataW H} {p : List MemPlace}
    (hv : Value.okWide Tryd.prog w .any base 22 v) (h : DataW.Trod enc Tryd.prog w 0 (fun _ => true) true 22 v d p) (hTab : TabW w) :
    Calls Tryd.prog 3 #[v] w fun e w' => e = .returned (.bool true) ∧ Ext w w' := by
  rcases defsC_open hv h with ⟨a, cap, rfl⟩ | ⟨b, o, len, cap, rfl, h0, h1, hL⟩
  · clear hv h
    go_enter Tryd.func3, Tryd.ntmps3
    go_wp2_with fail
    go_loopw [3] (fun i wr => i = .int .i64 0 ∧ wr = w) (fun _ _ => 0)
    case atStart => exact ⟨rfl, rfl⟩
    case round =>
      obtain ⟨rfl, hwr⟩ := hrel
      subst hwr
      go_wp2_with (go_at_call 9; refine (wakes26 _).mono ?_; rintro e w' ⟨rfl, x9⟩)
      go_ret
      exact ⟨rfl, x9⟩
  · exact joins_walk b o len cap w h1 hL hTab
end Go.Proofs.YtfimmcnfmipnlaaDoor
