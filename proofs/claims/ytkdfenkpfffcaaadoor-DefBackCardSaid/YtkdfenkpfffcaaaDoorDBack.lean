/- DefBack: the walk. -/
import Derived.Test.YtkdfenkpfffcaaaDoorDefUse
import Derived.Deep.RegionHeld3
namespace Go.Proofs.YtkdfenkpfffcaaaDoor
open Go.RowKit Go.WideShapes Go.ChangeShapes
/-- The argument: definitions, one behind the other. -/
def DefsAt (w : World) (b o len : Nat) : Prop := ∀ k, k < len → ∃ n d iv lv, w.cell? ⟨b, o + k * 3, none⟩ = some iv ∧ w.cell? ⟨b, o + k * 3 + 1, none⟩ = some lv ∧ w.cell? ⟨b, o + k * 3 + 2, none⟩ = some (.int .i64 d.loss) ∧ DefAt (fun b => b < w.heap.size) n w (.agg #[iv, lv, .int .i64 d.loss]) d
set_option maxHeartbeats 100000000 in
set_option maxRecDepth 100000 in
theorem dback_walk (b o len cap : Nat) (w : World) (_hl : len ≤ 9223372036854775807) (hT : DefsAt w b o len) (hTab : TabW w) :
    Calls Tryd.prog 4 #[.slice (some ⟨b, o, none⟩) len cap] w fun e w' => e = .returned (.bool true) ∧ Ext w w' := by
  have HT := Lib.hid hT
  have HTW := Lib.hid hTab
  clear hT hTab
  go_enter Tryd.func4, Tryd.ntmps4
  go_wp2_with fail
  go_loopw [3] (fun i wr => ∃ k : Nat, k ≤ len ∧ i = .int .i64 k ∧ Ext w wr) (fun i _ => len - (intOf i).toNat)
  case atStart => exact ⟨0, Nat.zero_le _, rfl, Ext.refl _⟩
  case round =>
    obtain ⟨k, hk, rfl, hext⟩ := hrel
    by_cases hlt : k < len ∧ k < 8
    · obtain ⟨h1, h2⟩ := hlt
      have h1z : (k : Int) < (len : Int) := by omega
      have h2z : (k : Int) < 8 := by omega
      obtain ⟨n, d, iv, lv, c0, c1, c2, D0⟩ := HT.out k h1
      obtain ⟨a1, cc1, a2, cc2, e, hi, hly⟩ := D0.is
      obtain ⟨rfl, rfl⟩ : iv = .slice a1 d.input.length cc1 ∧ lv = .slice a2 d.layers.length cc2 := by injection e with e; injection e with e; injection e with e1 e; injection e with e2 e; exact ⟨e1, e2⟩
      replace c0 := hext.cell c0
      replace c1 := hext.cell c1
      replace c2 := hext.cell c2
      have z0 := cell_lt c0
      simp only at z0
      have DA := Lib.hid (D0.ext hext)
      have HV := Lib.hid (heavy_any DA.out)
      have XWO := Lib.hid hext
      clear e hi hly D0 HT
      cases hh : heavyS d with
      | true =>
        rw [hh] at HV
        clear hh
        go_wp2_with fail
        refine (HV.out).mono ?_
        rintro e v1 ⟨rfl, x1⟩
        clear HV c0 c1 c2
        go_wp2
        go_ret
        exact ⟨rfl, hext.tr x1⟩
      | false =>
        rw [hh] at HV
        obtain ⟨hs1, hs2⟩ := heavy_slim hh n
        have CD := Lib.hid (fun u (x : Ext wr u) => copyDef_any (DA.out.ext x) hs1 (by omega))
        clear hh hs1 hs2
        go_wp2_with fail
        refine (HV.out).mono ?_
        rintro e v1 ⟨rfl, x1⟩
        clear HV
        replace c0 := x1.cell c0
        replace c1 := x1.cell c1
        replace c2 := x1.cell c2
        have z1 := cell_lt c0
        simp only at z1
        go_wp2_with fail
        refine (CD.out _ x1).mono ?_
        rintro e v2 ⟨dv, rfl, x2, D2⟩
        clear CD
        replace c0 := x2.cell c0
        replace c1 := x2.cell c1
        replace c2 := x2.cell c2
        have z2 := cell_lt c0
        simp only at z2
        have X2 := Lib.hid ((XWO.out.tr x1).tr x2)
        have DA2 := Lib.hid ((DA.out.ext x1).ext x2)
        have DC := Lib.hid D2
        obtain ⟨a3, cc3, a4, cc4, rfl, -, -⟩ := D2.is
        clear D2 DA XWO x1 x2 hext z0 z1
        cases hg : goodD d with
        | false =>
          have PB := Lib.hid (print_bad DC.out (HTW.out.ext X2.out) hg)
          clear hg
          go_wp2_with fail
          refine (PB.out).mono ?_
          rintro e v3 ⟨rfl, x3⟩
          clear PB
          go_wp2_with (go_at_call 10; refine (num26_any _ _).mono ?_; rintro e w' ⟨rfl, rfl⟩)
          exact ⟨⟨k + 1, by omega, by go_num, X2.out.tr x3⟩, by simp [intOf]; omega⟩
        | true =>
          obtain ⟨S, hS, hsz, -, hex, -⟩ := str_of (printS d)
          have PG := Lib.hid (print_good DC.out (HTW.out.ext X2.out) hg hS)
          obtain ⟨l, hl⟩ : ∃ l, printS d = l := ⟨_, rfl⟩
          have PB := Lib.hid (parse_back hg)
          rw [hl] at PB hsz hex hS
          go_wp2_with fail
          refine (PG.out).mono ?_
          rintro e v3 ⟨rfl, x3⟩
          clear PG
          replace c0 := x3.cell c0
          replace c1 := x3.cell c1
          replace c2 := x3.cell c2
          have z3 := cell_lt c0
          simp only at z3
          have X3 := Lib.hid (X2.out.tr x3)
          have DA3 := Lib.hid (DA2.out.ext x3)
          clear x3 DA2 X2 z2
          by_cases hbig : 8192 < l.length
          · have hbz : (8192 : Int) < (S.size : Int) := by omega
            clear hex
            go_wp2_with (go_at_call 10; refine (num26_any _ _).mono ?_; rintro e w' ⟨rfl, rfl⟩)
            exact ⟨⟨k + 1, by omega, by go_num, X3.out⟩, by simp [intOf]; omega⟩
          · have hbz : ¬ (8192 : Int) < (S.size : Int) := by omega
            obtain ⟨pb1, pb2, pb3⟩ := PB.out (by omega)
            have kv3 := fun u => str_conv u hS
            obtain ⟨V3, hV3⟩ : ∃ V3, Lib.bytesWorld v3 5 S = V3 := ⟨_, rfl⟩
            have xv3 := bytes_ext v3 S
            have PX := Lib.hid (parse_good (bytesW_row v3 (by omega) hS) pb1)
            replace kv3 := kv3 v3
            rw [hV3] at xv3 PX kv3
            clear hV3
            clear pb1
            go_wp2_with (go_at_call 10; refine (num26_any _ _).mono ?_; rintro e w' ⟨rfl, rfl⟩)
            refine (PX.out).mono ?_
            rintro e v4 ⟨a5, cc5, a6, cc6, rfl, x4, D4⟩
            clear PX kv3
            replace c0 := x4.cell (xv3.cell c0)
            replace c1 := x4.cell (xv3.cell c1)
            replace c2 := x4.cell (xv3.cell c2)
            have z4 := cell_lt c0
            simp only at z4
            have X4 := Lib.hid ((X3.out.tr xv3).tr x4)
            have DA4 := Lib.hid ((DA3.out.ext xv3).ext x4)
            have DC4 := Lib.hid D4
            have PG := Lib.hid (fun u (x : Ext v4 u) => print_good (DC4.out.ext x) (HTW.out.ext (X4.out.tr x)) hg (hl ▸ hS : ba (printS d) = S))
            clear D4 xv3 DA3 z3 x4 DC
            go_wp2_with fail
            refine (PG.out _ (by repeat (first | with_reducible exact Ext.refl _ | with_reducible apply Ext.drew | with_reducible apply Ext.drewN | with_reducible apply Ext.alloc | ((with_reducible refine Ext.setCell ?_ ?_ _); rotate_left; focus (first | (simp; done) | (simp; omega) | omega)) | with_reducible refine Ext.tr ?_ x1 | with_reducible refine Ext.tr ?_ x2 | with_reducible refine Ext.tr ?_ x3 | with_reducible refine Ext.tr ?_ x4 | with_reducible refine Ext.tr ?_ x5 | with_reducible refine Ext.tr ?_ x6 | with_reducible refine Ext.tr ?_ x7 | with_reducible refine Ext.tr ?_ x8 | with_reducible refine Ext.tr ?_ x9 | with_reducible refine Ext.tr ?_ hext | with_reducible assumption))).mono ?_
            rintro e v5 ⟨rfl, x5⟩
            obtain ⟨cc, ff⟩ := x5.rules
            have k0 := cc v4.heap.size 0 (by simp)
            have k1 := cc v4.heap.size 1 (by simp)
            have k2 := cc v4.heap.size 2 (by simp)
            clear cc ff PG
            simp [go_sem, *] at k0 k1 k2
            have x45 : Ext v4 v5 := (by repeat (first | with_reducible exact Ext.refl _ | with_reducible apply Ext.drew | with_reducible apply Ext.drewN | with_reducible apply Ext.alloc | ((with_reducible refine Ext.setCell ?_ ?_ _); rotate_left; focus (first | (simp; done) | (simp; omega) | omega)) | with_reducible refine Ext.tr ?_ x1 | with_reducible refine Ext.tr ?_ x2 | with_reducible refine Ext.tr ?_ x3 | with_reducible refine Ext.tr ?_ x4 | with_reducible refine Ext.tr ?_ x5 | with_reducible refine Ext.tr ?_ x6 | with_reducible refine Ext.tr ?_ x7 | with_reducible refine Ext.tr ?_ x8 | with_reducible refine Ext.tr ?_ x9 | with_reducible refine Ext.tr ?_ hext | with_reducible assumption))
            replace c0 := x45.cell c0
            replace c1 := x45.cell c1
            replace c2 := x45.cell c2
            have z5 := cell_lt c0
            have y5 := cell_lt k0
            simp only at z5 y5
            have EQ := Lib.hid (fun u (x : Ext v5 u) => eqDef_at ((DC4.out.ext x45).ext x) ((DA4.out.ext x45).ext x))
            have X5 := Lib.hid (X4.out.tr x45)
            clear x5 x45 DC4 DA4 X4 z4
            have ST : (S.toList != S.toList) = false := by simp
            go_wp2_with fail
            go_cut [82] (fun s82 wx => s82 = .bool false ∧ Ext v5 wx)
            case first => as_aux_lemma =>
              go_region_held3 (fun w' => w'.cell? ⟨v4.heap.size, 0, none⟩ = some (.slice a5 d.input.length cc5) ∧ w'.cell? ⟨v4.heap.size, 1, none⟩ = some (.slice a6 d.layers.length cc6) ∧ w'.cell? ⟨v4.heap.size, 2, none⟩ = some (.int .i64 d.loss) ∧ w'.cell? ⟨b, o + k * 3, none⟩ = some (.slice a1 d.input.length cc1) ∧ w'.cell? ⟨b, o + k * 3 + 1, none⟩ = some (.slice a2 d.layers.length cc2) ∧ w'.cell? ⟨b, o + k * 3 + 2, none⟩ = some (.int .i64 d.loss) ∧ v4.heap.size < w'.heap.size ∧ b < w'.heap.size ∧ Ext v5 w')
                (refine ⟨?_, ?_, ?_, ?_, ?_, ?_, ?_, ?_, ?_⟩ <;> first | (simp [go_sem, *]; done) | omega | (simp at z1; omega) | (simp at z2; omega) | (simp at z3; omega) | (simp at z4; omega) | exact (by repeat (first | with_reducible exact Ext.refl _ | with_reducible apply Ext.drew | with_reducible apply Ext.drewN | with_reducible apply Ext.alloc | ((with_reducible refine Ext.setCell ?_ ?_ _); rotate_left; focus (first | (simp; done) | (simp; omega) | omega)) | with_reducible refine Ext.tr ?_ x1 | with_reducible refine Ext.tr ?_ x2 | with_reducible refine Ext.tr ?_ x3 | with_reducible refine Ext.tr ?_ x4 | with_reducible refine Ext.tr ?_ x5 | with_reducible refine Ext.tr ?_ x6 | with_reducible refine Ext.tr ?_ x7 | with_reducible refine Ext.tr ?_ x8 | with_reducible refine Ext.tr ?_ x9 | with_reducible refine Ext.tr ?_ hext | with_reducible assumption)))
                (first
                  | (go_at_call 10; refine (num26_any _ _).mono ?_; rintro e w' ⟨rfl, rfl⟩)
                  | ((go_at_call 14; refine (EQ.out _ (by repeat (first | with_reducible exact Ext.refl _ | with_reducible apply Ext.drew | with_reducible apply Ext.drewN | with_reducible apply Ext.alloc | ((with_reducible refine Ext.setCell ?_ ?_ _); rotate_left; focus (first | (simp; done) | (simp; omega) | omega)) | with_reducible refine Ext.tr ?_ x1 | with_reducible refine Ext.tr ?_ x2 | with_reducible refine Ext.tr ?_ x3 | with_reducible refine Ext.tr ?_ x4 | with_reducible refine Ext.tr ?_ x5 | with_reducible refine Ext.tr ?_ x6 | with_reducible refine Ext.tr ?_ x7 | with_reducible refine Ext.tr ?_ x8 | with_reducible refine Ext.tr ?_ x9 | with_reducible refine Ext.tr ?_ hext | with_reducible assumption))).mono ?_; rintro e v6 ⟨rfl, x6⟩; obtain ⟨c6, f6⟩ := x6.rules; have z6 := x6.size); clear EQ; have y6 : Ext v5 v6 := (by repeat (first | with_reducible exact Ext.refl _ | with_reducible apply Ext.drew | with_reducible apply Ext.drewN | with_reducible apply Ext.alloc | ((with_reducible refine Ext.setCell ?_ ?_ _); rotate_left; focus (first | (simp; done) | (simp; omega) | omega)) | with_reducible refine Ext.tr ?_ x1 | with_reducible refine Ext.tr ?_ x2 | with_reducible refine Ext.tr ?_ x3 | with_reducible refine Ext.tr ?_ x4 | with_reducible refine Ext.tr ?_ x5 | with_reducible refine Ext.tr ?_ x6 | with_reducible refine Ext.tr ?_ x7 | with_reducible refine Ext.tr ?_ x8 | with_reducible refine Ext.tr ?_ x9 | with_reducible refine Ext.tr ?_ hext | with_reducible assumption)); have n0 := y6.cell k0; have n1 := y6.cell k1; have n2 := y6.cell k2; have m0 := y6.cell c0; have m1 := y6.cell c1; have m2 := y6.cell c2; have zm : b < v6.heap.size := cell_lt m0; have zn : v4.heap.size < v6.heap.size := cell_lt n0))
              all_goals
                go_wp2_with fail
                go_meet
                exact ⟨rfl, (by repeat (first | with_reducible exact Ext.refl _ | with_reducible apply Ext.drew | with_reducible apply Ext.drewN | with_reducible apply Ext.alloc | ((with_reducible refine Ext.setCell ?_ ?_ _); rotate_left; focus (first | (simp; done) | (simp; omega) | omega)) | with_reducible refine Ext.tr ?_ x1 | with_reducible refine Ext.tr ?_ x2 | with_reducible refine Ext.tr ?_ x3 | with_reducible refine Ext.tr ?_ x4 | with_reducible refine Ext.tr ?_ x5 | with_reducible refine Ext.tr ?_ x6 | with_reducible refine Ext.tr ?_ x7 | with_reducible refine Ext.tr ?_ x8 | with_reducible refine Ext.tr ?_ x9 | with_reducible refine Ext.tr ?_ hext | with_reducible assumption))⟩
            case rest =>
              obtain ⟨rfl, x6⟩ := hcut
              have X6 := Lib.hid (X5.out.tr x6)
              clear X5 EQ k0 k1 k2 c0 c1 c2 x6 ST z5 y5
              obtain ⟨m, hm⟩ : ∃ m, l.length = m + 1 := by
                obtain ⟨q, hq⟩ := print_ends d
                rw [hl] at hq
                exact ⟨q.length, by rw [hq]; simp⟩
              have wm : IntKind.i64.wrap ((S.size : Int) - 1) = (m : Int) := by rw [IntKind.wrap_i64]; omega
              have hms : m ≤ S.size := by omega
              obtain ⟨T, hT, -, -, -, -⟩ := str_of (l.take m)
              have eT : S.extract 0 m = T := by rw [hex.out, ← hT, List.drop_zero]
              have hlt : (l.take m).length = m := by rw [List.length_take]; omega
              have kv6 := fun u => str_conv u hT
              have PX := Lib.hid (fun u => parse_none (bytesW_row u (by omega) hT) (by rw [hm, Nat.add_sub_cancel] at pb2; exact pb2))
              rw [hlt] at kv6 PX
              obtain ⟨U, hU, -, -, -, -⟩ := str_of (l ++ [32])
              have hll : (l ++ [32]).length = m + 2 := by simp; omega
              have aU := add_ba (A := S) (B := ⟨#[32]⟩) (C := U) (by rw [← hS, ← hU]; exact ba_app l [32]) (by have : (⟨#[32]⟩ : ByteArray).size = 1 := rfl; omega)
              have kv7 := fun u => str_conv u hU
              have PY := Lib.hid (fun u => parse_none (bytesW_row u (by omega) hU) pb3)
              rw [hll] at kv7 PY
              clear pb2 pb3 hex hS hT hU hll
              go_wp2_with fail
              refine (PX.out _).mono ?_
              rintro e v7 ⟨kk, a7, cc7, a8, cc8, rfl, x7⟩
              have X7 := Lib.hid (X6.out.tr ((bytes_ext wc T).tr x7))
              clear PX kv6 eT wm X6 x7
              go_wp2_with fail
              have PZ := PY.out (v7.alloc (.cells #[.slice a7 0 cc7, .slice a8 0 cc8, .int .i64 0] 26))
              rw [World.size_alloc] at PZ
              refine PZ.mono ?_
              rintro e v8 ⟨kk2, a9, cc9, a0, cc0, rfl, x8⟩
              have X8 := Lib.hid (((X7.out.alloc (.cells #[.slice a7 0 cc7, .slice a8 0 cc8, .int .i64 0] 26)).tr (bytes_ext _ U)).tr x8)
              clear PY PZ kv7 aU X7 x8
              go_wp2_with (go_at_call 10; refine (num26_any _ _).mono ?_; rintro e w' ⟨rfl, rfl⟩)
              have x8 := X8.out
              exact ⟨⟨k + 1, by omega, by go_num, (by repeat (first | with_reducible exact Ext.refl _ | with_reducible apply Ext.drew | with_reducible apply Ext.drewN | with_reducible apply Ext.alloc | ((with_reducible refine Ext.setCell ?_ ?_ _); rotate_left; focus (first | (simp; done) | (simp; omega) | omega)) | with_reducible refine Ext.tr ?_ x1 | with_reducible refine Ext.tr ?_ x2 | with_reducible refine Ext.tr ?_ x3 | with_reducible refine Ext.tr ?_ x4 | with_reducible refine Ext.tr ?_ x5 | with_reducible refine Ext.tr ?_ x6 | with_reducible refine Ext.tr ?_ x7 | with_reducible refine Ext.tr ?_ x8 | with_reducible refine Ext.tr ?_ x9 | with_reducible refine Ext.tr ?_ hext | with_reducible assumption))⟩, by simp [intOf]; omega⟩
    · have hor : ¬ (k : Int) < (len : Int) ∨ ((k : Int) < (len : Int) ∧ ¬ (k : Int) < 8) := by omega
      rcases hor with h1z | ⟨h1z, h2z⟩
      all_goals
        clear HT
        go_wp2_with (go_at_call 11; refine (wakes26 _).mono ?_; rintro e w' ⟨rfl, x9⟩)
        go_ret
        exact ⟨rfl, hext.tr x9⟩
set_option maxRecDepth 100000 in
theorem dback_any {H : Type} {enc : TypeId × Value → H} {w : World} {base : Nat} {v : Value} {d : DataW H} {p : List MemPlace}
    (hv : Value.okWide Tryd.prog w .any base 22 v) (h : DataW.Trod enc Tryd.prog w 0 (fun _ => true) true 22 v d p) (hTab : TabW w) :
    Calls Tryd.prog 4 #[v] w fun e w' => e = .returned (.bool true) ∧ Ext w w' := by
  rcases defs_open hv h with ⟨a, cap, rfl⟩ | ⟨b, o, len, cap, rfl, h0, h1, hL⟩
  · clear hv h
    go_enter Tryd.func4, Tryd.ntmps4
    go_wp2_with fail
    go_loopw [3] (fun i wr => i = .int .i64 0 ∧ wr = w) (fun _ _ => 0)
    case atStart => exact ⟨rfl, rfl⟩
    case round =>
      obtain ⟨rfl, hwr⟩ := hrel
      subst hwr
      go_wp2_with (go_at_call 11; refine (wakes26 _).mono ?_; rintro e w' ⟨rfl, x9⟩)
      go_ret
      exact ⟨rfl, x9⟩
  · exact dback_walk b o len cap w h1 hL hTab
end Go.Proofs.YtkdfenkpfffcaaaDoor
