/- DefPrints: the walk. -/
import Derived.Test.YtfimmcnfmipnlaaDoorRefPrint2
import Derived.Test.YtfimmcnfmipnlaaDoorDefOpen
import Derived.Test.YtfimmcnfmipnlaaDoorDefUse
import Derived.Test.YtfimmcnfmipnlaaDoorRefMay4
import Derived.Deep.RegionHeld3
namespace Go.Proofs.YtfimmcnfmipnlaaDoor
open Go.RowKit Go.WideShapes Go.ChangeShapes
set_option maxHeartbeats 2000000 in
theorem dcheck_any {A : Nat → Prop} {n : Nat} {w : World} {v : Value} {d : DefL} {E : Int} (h : DefAt A n w v d) (hE : (if goodD d then 0 else 1) = E) :
    Calls Tryd.prog 12 #[v] w fun e w' => e = .returned (.int .i64 E) ∧ Ext w w' := by
  have GO := Lib.hid (fun u (x : Ext w u) => dgood_any (h.ext x))
  obtain ⟨a1, c1, a2, c2, rfl, -, -⟩ := h.is
  cases hg : goodD d with
  | false =>
    rw [hg] at GO hE
    obtain rfl : (1 : Int) = E := hE
    clear h hg
    go_enter Tryd.func12, Tryd.ntmps12
    go_wp2_with (go_at_call 18; refine (GO.out _ (by repeat (first | with_reducible exact Ext.refl _ | with_reducible apply Ext.drew | with_reducible apply Ext.drewN | with_reducible apply Ext.alloc | ((with_reducible refine Ext.setCell ?_ ?_ _); rotate_left; focus (first | (simp; done) | (simp; omega) | omega)) | with_reducible refine Ext.tr ?_ x1 | with_reducible refine Ext.tr ?_ x2 | with_reducible refine Ext.tr ?_ x3 | with_reducible refine Ext.tr ?_ x4 | with_reducible refine Ext.tr ?_ x5 | with_reducible refine Ext.tr ?_ x6 | with_reducible refine Ext.tr ?_ x7 | with_reducible refine Ext.tr ?_ x9 | with_reducible refine Ext.tr ?_ hext | with_reducible assumption))).mono ?_; rintro e v1 ⟨rfl, x1⟩)
    go_ret
    exact ⟨rfl, (by repeat (first | with_reducible exact Ext.refl _ | with_reducible apply Ext.drew | with_reducible apply Ext.drewN | with_reducible apply Ext.alloc | ((with_reducible refine Ext.setCell ?_ ?_ _); rotate_left; focus (first | (simp; done) | (simp; omega) | omega)) | with_reducible refine Ext.tr ?_ x1 | with_reducible refine Ext.tr ?_ x2 | with_reducible refine Ext.tr ?_ x3 | with_reducible refine Ext.tr ?_ x4 | with_reducible refine Ext.tr ?_ x5 | with_reducible refine Ext.tr ?_ x6 | with_reducible refine Ext.tr ?_ x7 | with_reducible refine Ext.tr ?_ x9 | with_reducible refine Ext.tr ?_ hext | with_reducible assumption))⟩
  | true =>
    rw [hg] at GO hE
    obtain rfl : (0 : Int) = E := hE
    clear h hg
    go_enter Tryd.func12, Tryd.ntmps12
    go_wp2_with (go_at_call 18; refine (GO.out _ (by repeat (first | with_reducible exact Ext.refl _ | with_reducible apply Ext.drew | with_reducible apply Ext.drewN | with_reducible apply Ext.alloc | ((with_reducible refine Ext.setCell ?_ ?_ _); rotate_left; focus (first | (simp; done) | (simp; omega) | omega)) | with_reducible refine Ext.tr ?_ x1 | with_reducible refine Ext.tr ?_ x2 | with_reducible refine Ext.tr ?_ x3 | with_reducible refine Ext.tr ?_ x4 | with_reducible refine Ext.tr ?_ x5 | with_reducible refine Ext.tr ?_ x6 | with_reducible refine Ext.tr ?_ x7 | with_reducible refine Ext.tr ?_ x9 | with_reducible refine Ext.tr ?_ hext | with_reducible assumption))).mono ?_; rintro e v1 ⟨rfl, x1⟩)
    go_ret
    exact ⟨rfl, (by repeat (first | with_reducible exact Ext.refl _ | with_reducible apply Ext.drew | with_reducible apply Ext.drewN | with_reducible apply Ext.alloc | ((with_reducible refine Ext.setCell ?_ ?_ _); rotate_left; focus (first | (simp; done) | (simp; omega) | omega)) | with_reducible refine Ext.tr ?_ x1 | with_reducible refine Ext.tr ?_ x2 | with_reducible refine Ext.tr ?_ x3 | with_reducible refine Ext.tr ?_ x4 | with_reducible refine Ext.tr ?_ x5 | with_reducible refine Ext.tr ?_ x6 | with_reducible refine Ext.tr ?_ x7 | with_reducible refine Ext.tr ?_ x9 | with_reducible refine Ext.tr ?_ hext | with_reducible assumption))⟩
theorem print_both {A : Nat → Prop} {n : Nat} {w : World} {v : Value} {d : DefL} {S : ByteArray} {E : Int} (h : DefAt A n w v d) (hT : TabW w) (hS : (if goodD d then ba (printS d) else ⟨#[]⟩) = S) (hE : (if goodD d then 0 else 1) = E) :
    Calls Tryd.prog 7 #[v] w fun e w' => e = .returned (.tuple #[.string S, .int .i64 E]) ∧ Ext w w' := by
  cases hg : goodD d with
  | false => rw [hg] at hS hE; rw [← hS, ← hE]; exact print_bad h hT hg
  | true => rw [hg] at hS hE; rw [← hE]; exact print_good h hT hg hS
set_option maxHeartbeats 100000000 in
set_option maxRecDepth 100000 in
theorem prints_walk (b o len cap : Nat) (w : World) (_hl : len ≤ 9223372036854775807) (hT : DefsAtC w b o len) (hTab : TabW w) :
    Calls Tryd.prog 4 #[.slice (some ⟨b, o, none⟩) len cap] w fun e w' => e = .returned (.bool true) ∧ Ext w w' := by
  have HT := Lib.hid hT
  have HTW := Lib.hid hTab
  clear hT hTab
  go_enter Tryd.func4, Tryd.ntmps4
  go_wp2_with fail
  go_loopw [3] (fun i wr => ∃ k : Nat, k ≤ len ∧ i = .int .i64 k ∧ Ext w wr) (fun i _ => len - (intOf i).toNat)
  case atStart => exact ⟨0, Nat.zero_le _, rfl, Ext.refl _⟩
  case round =>
    obtain ⟨k, hk, rfl, hext⟩ := hrel
    by_cases hlt : k < len ∧ k < 8
    · obtain ⟨h1, h2⟩ := hlt
      have h1z : (k : Int) < (len : Int) := by omega
      have h2z : (k : Int) < 8 := by omega
      obtain ⟨n, d, iv, lv, c0, c1, c2, -, D0⟩ := HT.out k h1
      obtain ⟨a1, cc1, a2, cc2, e, hi, hly⟩ := D0.is
      obtain ⟨rfl, rfl⟩ : iv = .slice a1 d.input.length cc1 ∧ lv = .slice a2 d.layers.length cc2 := by injection e with e; injection e with e; injection e with e1 e; injection e with e2 e; exact ⟨e1, e2⟩
      replace c0 := hext.cell c0
      replace c1 := hext.cell c1
      replace c2 := hext.cell c2
      have z0 := cell_lt c0
      simp only at z0
      have DA := Lib.hid (D0.ext hext)
      have HV := Lib.hid (heavy_any DA.out)
      have XWO := Lib.hid hext
      clear e hi hly D0 HT
      cases hh : heavyS d with
      | true =>
        rw [hh] at HV
        clear hh
        go_wp2_with fail
        refine (HV.out).mono ?_
        rintro e v1 ⟨rfl, x1⟩
        clear HV c0 c1 c2
        go_wp2
        go_ret
        exact ⟨rfl, hext.tr x1⟩
      | false =>
        rw [hh] at HV
        have hct := heavy_count hh
        obtain ⟨hs1, hs2⟩ := heavy_slim hh n
        have MY := Lib.hid (fun u (x : Ext wr u) => mayR_any (DA.out.ext x) hct)
        have CD := Lib.hid (fun u (x : Ext wr u) => copyDef_any (DA.out.ext x) hs1 (by omega))
        clear hh hs1 hs2 hct
        go_wp2_with fail
        refine (HV.out).mono ?_
        rintro e v1 ⟨rfl, x1⟩
        clear HV
        replace c0 := x1.cell c0
        replace c1 := x1.cell c1
        replace c2 := x1.cell c2
        have z1 := cell_lt c0
        simp only at z1
        have X1 := Lib.hid x1
        clear x1 z0
        go_wp2_with fail
        refine (MY.out _ X1.out).mono ?_
        rintro e v2 ⟨rfl, x2⟩
        clear MY
        replace c0 := x2.cell c0
        replace c1 := x2.cell c1
        replace c2 := x2.cell c2
        have z2 := cell_lt c0
        simp only at z2
        have X2 := Lib.hid (X1.out.tr x2)
        clear X1 x2 z1
        obtain ⟨S, hS⟩ : ∃ S, (if goodD d then ba (printS d) else ⟨#[]⟩) = S := ⟨_, rfl⟩
        obtain ⟨E, hE⟩ : ∃ E : Int, (if goodD d then 0 else 1) = E := ⟨_, rfl⟩
        have HSH := Lib.hid hS
        have HEH := Lib.hid hE
        cases hg : goodD d with
        | false =>
            rw [hg] at hS hE
            obtain rfl : (⟨#[]⟩ : ByteArray) = S := hS
            obtain rfl : (1 : Int) = E := hE
            clear hg
            have X3 := Lib.hid X2.out
            clear X2
            go_wp2_with fail
            refine (CD.out _ X3.out).mono ?_
            rintro e v4 ⟨dv, rfl, x4, D4⟩
            clear CD
            replace c0 := x4.cell c0
            replace c1 := x4.cell c1
            replace c2 := x4.cell c2
            have z4 := cell_lt c0
            simp only at z4
            have X4 := Lib.hid (X3.out.tr x4)
            obtain ⟨a3, cc3, a4, cc4, rfl, -, -⟩ := D4.is
            have DC := Lib.hid D4
            clear D4 X3 x4
            have PG := Lib.hid (fun u (x : Ext v4 u) => print_both (DC.out.ext x) (HTW.out.ext (XWO.out.tr (X4.out.tr x))) HSH.out HEH.out)
            go_wp2_with fail
            refine (PG.out _ (by repeat (first | with_reducible exact Ext.refl _ | with_reducible apply Ext.drew | with_reducible apply Ext.drewN | with_reducible apply Ext.alloc | ((with_reducible refine Ext.setCell ?_ ?_ _); rotate_left; focus (first | (simp; done) | (simp; omega) | omega)) | with_reducible refine Ext.tr ?_ x1 | with_reducible refine Ext.tr ?_ x2 | with_reducible refine Ext.tr ?_ x3 | with_reducible refine Ext.tr ?_ x4 | with_reducible refine Ext.tr ?_ x5 | with_reducible refine Ext.tr ?_ x6 | with_reducible refine Ext.tr ?_ x7 | with_reducible refine Ext.tr ?_ x9 | with_reducible refine Ext.tr ?_ hext | with_reducible assumption))).mono ?_
            rintro e v5 ⟨rfl, x5⟩
            clear PG
            obtain ⟨k0, k1, k2, zk⟩ := ((Blk.new v4 26 #[.slice a3 d.input.length cc3, .slice a4 d.layers.length cc4, .int .i64 d.loss]).ext x5).three'
            have x45 : Ext v4 v5 := (by repeat (first | with_reducible exact Ext.refl _ | with_reducible apply Ext.drew | with_reducible apply Ext.drewN | with_reducible apply Ext.alloc | ((with_reducible refine Ext.setCell ?_ ?_ _); rotate_left; focus (first | (simp; done) | (simp; omega) | omega)) | with_reducible refine Ext.tr ?_ x1 | with_reducible refine Ext.tr ?_ x2 | with_reducible refine Ext.tr ?_ x3 | with_reducible refine Ext.tr ?_ x4 | with_reducible refine Ext.tr ?_ x5 | with_reducible refine Ext.tr ?_ x6 | with_reducible refine Ext.tr ?_ x7 | with_reducible refine Ext.tr ?_ x9 | with_reducible refine Ext.tr ?_ hext | with_reducible assumption))
            replace c0 := x45.cell c0
            replace c1 := x45.cell c1
            replace c2 := x45.cell c2
            have z5 := cell_lt c0
            simp only at z5
            have CK := Lib.hid (fun u (x : Ext v5 u) => dcheck_any ((DC.out.ext x45).ext x) HEH.out)
            have EQ := Lib.hid (fun u (x : Ext v5 u) => eqDef_at ((DC.out.ext x45).ext x) (((DA.out.ext X4.out).ext x45).ext x))
            have X5 := Lib.hid (XWO.out.tr (X4.out.tr x45))
            have ST : ((⟨#[]⟩ : ByteArray).toList != (⟨#[]⟩ : ByteArray).toList) = false := by simp
            have SE : ((1 : Int) != (1 : Int)) = false := by simp
            obtain ⟨g, hgg⟩ : ∃ g, v4.heap.size = g := ⟨_, rfl⟩
            rw [hgg] at k0 k1 k2 zk ⊢
            clear x5 x45 DC DA X4 z4 hgg HTW XWO HSH HEH
            go_wp2_with fail
            go_cut [69] from 45 to 69 (fun s69 wx => s69 = .bool false ∧ Ext v5 wx)
            case first => as_aux_lemma =>
              go_region_held3 (fun w' => w'.cell? ⟨g, 0, none⟩ = some (.slice a3 d.input.length cc3) ∧ w'.cell? ⟨g, 1, none⟩ = some (.slice a4 d.layers.length cc4) ∧ w'.cell? ⟨g, 2, none⟩ = some (.int .i64 d.loss) ∧ w'.cell? ⟨b, o + k * 3, none⟩ = some (.slice a1 d.input.length cc1) ∧ w'.cell? ⟨b, o + k * 3 + 1, none⟩ = some (.slice a2 d.layers.length cc2) ∧ w'.cell? ⟨b, o + k * 3 + 2, none⟩ = some (.int .i64 d.loss) ∧ g < w'.heap.size ∧ b < w'.heap.size ∧ Ext v5 w')
                (refine ⟨?_, ?_, ?_, ?_, ?_, ?_, ?_, ?_, ?_⟩ <;> first | (simp [go_sem, *]; done) | omega | (simp at z1; omega) | (simp at z2; omega) | (simp at z3; omega) | (simp at z4; omega) | exact (by repeat (first | with_reducible exact Ext.refl _ | with_reducible apply Ext.drew | with_reducible apply Ext.drewN | with_reducible apply Ext.alloc | ((with_reducible refine Ext.setCell ?_ ?_ _); rotate_left; focus (first | (simp; done) | (simp; omega) | omega)) | with_reducible refine Ext.tr ?_ x1 | with_reducible refine Ext.tr ?_ x2 | with_reducible refine Ext.tr ?_ x3 | with_reducible refine Ext.tr ?_ x4 | with_reducible refine Ext.tr ?_ x5 | with_reducible refine Ext.tr ?_ x6 | with_reducible refine Ext.tr ?_ x7 | with_reducible refine Ext.tr ?_ x9 | with_reducible refine Ext.tr ?_ hext | with_reducible assumption)))
                (first
                  | (go_at_call 8; refine (num26_any _ _).mono ?_; rintro e w' ⟨rfl, rfl⟩)
                  | ((go_at_call 12; refine (CK.out _ (by repeat (first | with_reducible exact Ext.refl _ | with_reducible apply Ext.drew | with_reducible apply Ext.drewN | with_reducible apply Ext.alloc | ((with_reducible refine Ext.setCell ?_ ?_ _); rotate_left; focus (first | (simp; done) | (simp; omega) | omega)) | with_reducible refine Ext.tr ?_ x1 | with_reducible refine Ext.tr ?_ x2 | with_reducible refine Ext.tr ?_ x3 | with_reducible refine Ext.tr ?_ x4 | with_reducible refine Ext.tr ?_ x5 | with_reducible refine Ext.tr ?_ x6 | with_reducible refine Ext.tr ?_ x7 | with_reducible refine Ext.tr ?_ x9 | with_reducible refine Ext.tr ?_ hext | with_reducible assumption))).mono ?_; rintro e v6 ⟨rfl, x6⟩; obtain ⟨c6, f6⟩ := x6.rules; have z6 := x6.size); clear CK; have y6 : Ext v5 v6 := (by repeat (first | with_reducible exact Ext.refl _ | with_reducible apply Ext.drew | with_reducible apply Ext.drewN | with_reducible apply Ext.alloc | ((with_reducible refine Ext.setCell ?_ ?_ _); rotate_left; focus (first | (simp; done) | (simp; omega) | omega)) | with_reducible refine Ext.tr ?_ x1 | with_reducible refine Ext.tr ?_ x2 | with_reducible refine Ext.tr ?_ x3 | with_reducible refine Ext.tr ?_ x4 | with_reducible refine Ext.tr ?_ x5 | with_reducible refine Ext.tr ?_ x6 | with_reducible refine Ext.tr ?_ x7 | with_reducible refine Ext.tr ?_ x9 | with_reducible refine Ext.tr ?_ hext | with_reducible assumption)); have n0 := y6.cell k0; have n1 := y6.cell k1; have n2 := y6.cell k2; have m0 := y6.cell c0; have m1 := y6.cell c1; have m2 := y6.cell c2; have zm : b < v6.heap.size := cell_lt m0; have zn : g < v6.heap.size := cell_lt n0)
                  | ((go_at_call 13; refine (EQ.out _ (by repeat (first | with_reducible exact Ext.refl _ | with_reducible apply Ext.drew | with_reducible apply Ext.drewN | with_reducible apply Ext.alloc | ((with_reducible refine Ext.setCell ?_ ?_ _); rotate_left; focus (first | (simp; done) | (simp; omega) | omega)) | with_reducible refine Ext.tr ?_ x1 | with_reducible refine Ext.tr ?_ x2 | with_reducible refine Ext.tr ?_ x3 | with_reducible refine Ext.tr ?_ x4 | with_reducible refine Ext.tr ?_ x5 | with_reducible refine Ext.tr ?_ x6 | with_reducible refine Ext.tr ?_ x7 | with_reducible refine Ext.tr ?_ x9 | with_reducible refine Ext.tr ?_ hext | with_reducible assumption))).mono ?_; rintro e v7 ⟨rfl, x7⟩; obtain ⟨c7, f7⟩ := x7.rules; have z7 := x7.size); clear EQ; have y7 : Ext v5 v7 := (by repeat (first | with_reducible exact Ext.refl _ | with_reducible apply Ext.drew | with_reducible apply Ext.drewN | with_reducible apply Ext.alloc | ((with_reducible refine Ext.setCell ?_ ?_ _); rotate_left; focus (first | (simp; done) | (simp; omega) | omega)) | with_reducible refine Ext.tr ?_ x1 | with_reducible refine Ext.tr ?_ x2 | with_reducible refine Ext.tr ?_ x3 | with_reducible refine Ext.tr ?_ x4 | with_reducible refine Ext.tr ?_ x5 | with_reducible refine Ext.tr ?_ x6 | with_reducible refine Ext.tr ?_ x7 | with_reducible refine Ext.tr ?_ x9 | with_reducible refine Ext.tr ?_ hext | with_reducible assumption)); have n0 := y7.cell k0; have n1 := y7.cell k1; have n2 := y7.cell k2; have m0 := y7.cell c0; have m1 := y7.cell c1; have m2 := y7.cell c2; have zm : b < v7.heap.size := cell_lt m0; have zn : g < v7.heap.size := cell_lt n0))
              all_goals
                go_wp2_with fail
                go_meet
                exact ⟨rfl, (by repeat (first | with_reducible exact Ext.refl _ | with_reducible apply Ext.drew | with_reducible apply Ext.drewN | with_reducible apply Ext.alloc | ((with_reducible refine Ext.setCell ?_ ?_ _); rotate_left; focus (first | (simp; done) | (simp; omega) | omega)) | with_reducible refine Ext.tr ?_ x1 | with_reducible refine Ext.tr ?_ x2 | with_reducible refine Ext.tr ?_ x3 | with_reducible refine Ext.tr ?_ x4 | with_reducible refine Ext.tr ?_ x5 | with_reducible refine Ext.tr ?_ x6 | with_reducible refine Ext.tr ?_ x7 | with_reducible refine Ext.tr ?_ x9 | with_reducible refine Ext.tr ?_ hext | with_reducible assumption))⟩
            case rest =>
              obtain ⟨rfl, x6⟩ := hcut
              have X6 := Lib.hid (X5.out.tr x6)
              clear CK EQ k0 k1 k2 c0 c1 c2 x6 ST SE z5 X5
              go_wp2_with fail
              exact ⟨⟨k + 1, by omega, by go_num, X6.out⟩, by simp [intOf]; omega⟩
        | true =>
            rw [hg] at hS hE
            obtain rfl : (0 : Int) = E := hE
            have PR := Lib.hid (fun u (x : Ext wr u) => printR_any (DA.out.ext x) hg hS)
            clear hg hS
            go_wp2_with fail
            refine (PR.out _ X2.out).mono ?_
            rintro e v3 ⟨rfl, x3⟩
            clear PR
            replace c0 := x3.cell c0
            replace c1 := x3.cell c1
            replace c2 := x3.cell c2
            have z3 := cell_lt c0
            simp only at z3
            have X3 := Lib.hid (X2.out.tr x3)
            clear X2 x3 z2
            go_wp2_with fail
            refine (CD.out _ X3.out).mono ?_
            rintro e v4 ⟨dv, rfl, x4, D4⟩
            clear CD
            replace c0 := x4.cell c0
            replace c1 := x4.cell c1
            replace c2 := x4.cell c2
            have z4 := cell_lt c0
            simp only at z4
            have X4 := Lib.hid (X3.out.tr x4)
            obtain ⟨a3, cc3, a4, cc4, rfl, -, -⟩ := D4.is
            have DC := Lib.hid D4
            clear D4 X3 x4
            have PG := Lib.hid (fun u (x : Ext v4 u) => print_both (DC.out.ext x) (HTW.out.ext (XWO.out.tr (X4.out.tr x))) HSH.out HEH.out)
            go_wp2_with fail
            refine (PG.out _ (by repeat (first | with_reducible exact Ext.refl _ | with_reducible apply Ext.drew | with_reducible apply Ext.drewN | with_reducible apply Ext.alloc | ((with_reducible refine Ext.setCell ?_ ?_ _); rotate_left; focus (first | (simp; done) | (simp; omega) | omega)) | with_reducible refine Ext.tr ?_ x1 | with_reducible refine Ext.tr ?_ x2 | with_reducible refine Ext.tr ?_ x3 | with_reducible refine Ext.tr ?_ x4 | with_reducible refine Ext.tr ?_ x5 | with_reducible refine Ext.tr ?_ x6 | with_reducible refine Ext.tr ?_ x7 | with_reducible refine Ext.tr ?_ x9 | with_reducible refine Ext.tr ?_ hext | with_reducible assumption))).mono ?_
            rintro e v5 ⟨rfl, x5⟩
            clear PG
            obtain ⟨k0, k1, k2, zk⟩ := ((Blk.new v4 26 #[.slice a3 d.input.length cc3, .slice a4 d.layers.length cc4, .int .i64 d.loss]).ext x5).three'
            have x45 : Ext v4 v5 := (by repeat (first | with_reducible exact Ext.refl _ | with_reducible apply Ext.drew | with_reducible apply Ext.drewN | with_reducible apply Ext.alloc | ((with_reducible refine Ext.setCell ?_ ?_ _); rotate_left; focus (first | (simp; done) | (simp; omega) | omega)) | with_reducible refine Ext.tr ?_ x1 | with_reducible refine Ext.tr ?_ x2 | with_reducible refine Ext.tr ?_ x3 | with_reducible refine Ext.tr ?_ x4 | with_reducible refine Ext.tr ?_ x5 | with_reducible refine Ext.tr ?_ x6 | with_reducible refine Ext.tr ?_ x7 | with_reducible refine Ext.tr ?_ x9 | with_reducible refine Ext.tr ?_ hext | with_reducible assumption))
            replace c0 := x45.cell c0
            replace c1 := x45.cell c1
            replace c2 := x45.cell c2
            have z5 := cell_lt c0
            simp only at z5
            have CK := Lib.hid (fun u (x : Ext v5 u) => dcheck_any ((DC.out.ext x45).ext x) HEH.out)
            have EQ := Lib.hid (fun u (x : Ext v5 u) => eqDef_at ((DC.out.ext x45).ext x) (((DA.out.ext X4.out).ext x45).ext x))
            have X5 := Lib.hid (XWO.out.tr (X4.out.tr x45))
            have ST : (S.toList != S.toList) = false := by simp
            have SE : ((0 : Int) != (0 : Int)) = false := by simp
            obtain ⟨g, hgg⟩ : ∃ g, v4.heap.size = g := ⟨_, rfl⟩
            rw [hgg] at k0 k1 k2 zk ⊢
            clear x5 x45 DC DA X4 z4 hgg HTW XWO HSH HEH
            go_wp2_with fail
            go_cut [69] from 45 to 69 (fun s69 wx => s69 = .bool false ∧ Ext v5 wx)
            case first => as_aux_lemma =>
              go_region_held3 (fun w' => w'.cell? ⟨g, 0, none⟩ = some (.slice a3 d.input.length cc3) ∧ w'.cell? ⟨g, 1, none⟩ = some (.slice a4 d.layers.length cc4) ∧ w'.cell? ⟨g, 2, none⟩ = some (.int .i64 d.loss) ∧ w'.cell? ⟨b, o + k * 3, none⟩ = some (.slice a1 d.input.length cc1) ∧ w'.cell? ⟨b, o + k * 3 + 1, none⟩ = some (.slice a2 d.layers.length cc2) ∧ w'.cell? ⟨b, o + k * 3 + 2, none⟩ = some (.int .i64 d.loss) ∧ g < w'.heap.size ∧ b < w'.heap.size ∧ Ext v5 w')
                (refine ⟨?_, ?_, ?_, ?_, ?_, ?_, ?_, ?_, ?_⟩ <;> first | (simp [go_sem, *]; done) | omega | (simp at z1; omega) | (simp at z2; omega) | (simp at z3; omega) | (simp at z4; omega) | exact (by repeat (first | with_reducible exact Ext.refl _ | with_reducible apply Ext.drew | with_reducible apply Ext.drewN | with_reducible apply Ext.alloc | ((with_reducible refine Ext.setCell ?_ ?_ _); rotate_left; focus (first | (simp; done) | (simp; omega) | omega)) | with_reducible refine Ext.tr ?_ x1 | with_reducible refine Ext.tr ?_ x2 | with_reducible refine Ext.tr ?_ x3 | with_reducible refine Ext.tr ?_ x4 | with_reducible refine Ext.tr ?_ x5 | with_reducible refine Ext.tr ?_ x6 | with_reducible refine Ext.tr ?_ x7 | with_reducible refine Ext.tr ?_ x9 | with_reducible refine Ext.tr ?_ hext | with_reducible assumption)))
                (first
                  | (go_at_call 8; refine (num26_any _ _).mono ?_; rintro e w' ⟨rfl, rfl⟩)
                  | ((go_at_call 12; refine (CK.out _ (by repeat (first | with_reducible exact Ext.refl _ | with_reducible apply Ext.drew | with_reducible apply Ext.drewN | with_reducible apply Ext.alloc | ((with_reducible refine Ext.setCell ?_ ?_ _); rotate_left; focus (first | (simp; done) | (simp; omega) | omega)) | with_reducible refine Ext.tr ?_ x1 | with_reducible refine Ext.tr ?_ x2 | with_reducible refine Ext.tr ?_ x3 | with_reducible refine Ext.tr ?_ x4 | with_reducible refine Ext.tr ?_ x5 | with_reducible refine Ext.tr ?_ x6 | with_reducible refine Ext.tr ?_ x7 | with_reducible refine Ext.tr ?_ x9 | with_reducible refine Ext.tr ?_ hext | with_reducible assumption))).mono ?_; rintro e v6 ⟨rfl, x6⟩; obtain ⟨c6, f6⟩ := x6.rules; have z6 := x6.size); clear CK; have y6 : Ext v5 v6 := (by repeat (first | with_reducible exact Ext.refl _ | with_reducible apply Ext.drew | with_reducible apply Ext.drewN | with_reducible apply Ext.alloc | ((with_reducible refine Ext.setCell ?_ ?_ _); rotate_left; focus (first | (simp; done) | (simp; omega) | omega)) | with_reducible refine Ext.tr ?_ x1 | with_reducible refine Ext.tr ?_ x2 | with_reducible refine Ext.tr ?_ x3 | with_reducible refine Ext.tr ?_ x4 | with_reducible refine Ext.tr ?_ x5 | with_reducible refine Ext.tr ?_ x6 | with_reducible refine Ext.tr ?_ x7 | with_reducible refine Ext.tr ?_ x9 | with_reducible refine Ext.tr ?_ hext | with_reducible assumption)); have n0 := y6.cell k0; have n1 := y6.cell k1; have n2 := y6.cell k2; have m0 := y6.cell c0; have m1 := y6.cell c1; have m2 := y6.cell c2; have zm : b < v6.heap.size := cell_lt m0; have zn : g < v6.heap.size := cell_lt n0)
                  | ((go_at_call 13; refine (EQ.out _ (by repeat (first | with_reducible exact Ext.refl _ | with_reducible apply Ext.drew | with_reducible apply Ext.drewN | with_reducible apply Ext.alloc | ((with_reducible refine Ext.setCell ?_ ?_ _); rotate_left; focus (first | (simp; done) | (simp; omega) | omega)) | with_reducible refine Ext.tr ?_ x1 | with_reducible refine Ext.tr ?_ x2 | with_reducible refine Ext.tr ?_ x3 | with_reducible refine Ext.tr ?_ x4 | with_reducible refine Ext.tr ?_ x5 | with_reducible refine Ext.tr ?_ x6 | with_reducible refine Ext.tr ?_ x7 | with_reducible refine Ext.tr ?_ x9 | with_reducible refine Ext.tr ?_ hext | with_reducible assumption))).mono ?_; rintro e v7 ⟨rfl, x7⟩; obtain ⟨c7, f7⟩ := x7.rules; have z7 := x7.size); clear EQ; have y7 : Ext v5 v7 := (by repeat (first | with_reducible exact Ext.refl _ | with_reducible apply Ext.drew | with_reducible apply Ext.drewN | with_reducible apply Ext.alloc | ((with_reducible refine Ext.setCell ?_ ?_ _); rotate_left; focus (first | (simp; done) | (simp; omega) | omega)) | with_reducible refine Ext.tr ?_ x1 | with_reducible refine Ext.tr ?_ x2 | with_reducible refine Ext.tr ?_ x3 | with_reducible refine Ext.tr ?_ x4 | with_reducible refine Ext.tr ?_ x5 | with_reducible refine Ext.tr ?_ x6 | with_reducible refine Ext.tr ?_ x7 | with_reducible refine Ext.tr ?_ x9 | with_reducible refine Ext.tr ?_ hext | with_reducible assumption)); have n0 := y7.cell k0; have n1 := y7.cell k1; have n2 := y7.cell k2; have m0 := y7.cell c0; have m1 := y7.cell c1; have m2 := y7.cell c2; have zm : b < v7.heap.size := cell_lt m0; have zn : g < v7.heap.size := cell_lt n0))
              all_goals
                go_wp2_with fail
                go_meet
                exact ⟨rfl, (by repeat (first | with_reducible exact Ext.refl _ | with_reducible apply Ext.drew | with_reducible apply Ext.drewN | with_reducible apply Ext.alloc | ((with_reducible refine Ext.setCell ?_ ?_ _); rotate_left; focus (first | (simp; done) | (simp; omega) | omega)) | with_reducible refine Ext.tr ?_ x1 | with_reducible refine Ext.tr ?_ x2 | with_reducible refine Ext.tr ?_ x3 | with_reducible refine Ext.tr ?_ x4 | with_reducible refine Ext.tr ?_ x5 | with_reducible refine Ext.tr ?_ x6 | with_reducible refine Ext.tr ?_ x7 | with_reducible refine Ext.tr ?_ x9 | with_reducible refine Ext.tr ?_ hext | with_reducible assumption))⟩
            case rest =>
              obtain ⟨rfl, x6⟩ := hcut
              have X6 := Lib.hid (X5.out.tr x6)
              clear CK EQ k0 k1 k2 c0 c1 c2 x6 ST SE z5 X5
              go_wp2_with fail
              exact ⟨⟨k + 1, by omega, by go_num, X6.out⟩, by simp [intOf]; omega⟩
    · have hor : ¬ (k : Int) < (len : Int) ∨ ((k : Int) < (len : Int) ∧ ¬ (k : Int) < 8) := by omega
      rcases hor with h1z | ⟨h1z, h2z⟩
      all_goals
        clear HT
        go_wp2_with (go_at_call 9; refine (wakes26 _).mono ?_; rintro e w' ⟨rfl, x9⟩)
        go_ret
        exact ⟨rfl, hext.tr x9⟩
set_option maxRecDepth 100000 in
theorem prints_any {H : Type} {enc : TypeId × Value → H} {w : World} {base : Nat} {v : Value} {d : DataW H} {p : List MemPlace}
    (hv : Value.okWide Tryd.prog w .any base 22 v) (h : DataW.Trod enc Tryd.prog w 0 (fun _ => true) true 22 v d p) (hTab : TabW w) :
    Calls Tryd.prog 4 #[v] w fun e w' => e = .returned (.bool true) ∧ Ext w w' := by
  rcases defsC_open hv h with ⟨a, cap, rfl⟩ | ⟨b, o, len, cap, rfl, h0, h1, hL⟩
  · clear hv h
    go_enter Tryd.func4, Tryd.ntmps4
    go_wp2_with fail
    go_loopw [3] (fun i wr => i = .int .i64 0 ∧ wr = w) (fun _ _ => 0)
    case atStart => exact ⟨rfl, rfl⟩
    case round =>
      obtain ⟨rfl, hwr⟩ := hrel
      subst hwr
      go_wp2_with (go_at_call 9; refine (wakes26 _).mono ?_; rintro e w' ⟨rfl, x9⟩)
      go_ret
      exact ⟨rfl, x9⟩
  · exact prints_walk b o len cap w h1 hL hTab
end Go.Proofs.YtfimmcnfmipnlaaDoor
