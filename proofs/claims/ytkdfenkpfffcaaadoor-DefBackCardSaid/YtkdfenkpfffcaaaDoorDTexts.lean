/- DefTexts: the walk. -/
import Derived.Test.YtkdfenkpfffcaaaDoorDefPrint3
import Derived.Test.YtkdfenkpfffcaaaDoorAskBytes
import Derived.Maps.AppendAt
import Derived.Lib.SlBytesConst
namespace Go.Proofs.YtkdfenkpfffcaaaDoor
open Go.RowKit Go.WideShapes Go.ChangeShapes
theorem bytesV_len (b : Bs) : (bytesV b).length = b.length := by simp [bytesV]
theorem u8_info : (Tryd.prog.info? 5).map (fun i => (i.zero, i.size, i.bytes)) = some (some (.int .u8 0), 1, 1) := by kernel_rfl
set_option maxHeartbeats 2000000 in
theorem copyBytes_any {v : Value} {b : Bs} {w : World} (h : RowV w v (bytesV b)) (hb : b.length ≤ 100000) :
    Calls Tryd.prog 15 #[v] w fun e w' => ∃ u, e = .returned u ∧ Ext w w' ∧ w'.ownsRow w.heap.size 5 1 u b.length (bytesV b) := by
  obtain ⟨i0, hi0, hz0, hz1, hz2⟩ := info_parts u8_info
  obtain ⟨a, cap, rfl, hcap, hmax, h3⟩ := h
  have hl := bytesV_len b
  rw [hl] at hcap ⊢
  have HC := Lib.hid h3
  clear h3 hl
  go_enter Tryd.func15, Tryd.ntmps15
  go_wp2_with fail
  go_loopw [3, 4] (fun l i wr => ∃ k : Nat, k ≤ b.length ∧ i = .int .i64 k ∧ wr.ownsRow w.heap.size 5 1 l k (bytesV (b.take k)) ∧ Ext w wr) (fun _ i _ => b.length - (intOf i).toNat)
  case atStart => exact ⟨0, Nat.zero_le _, rfl, World.ownsRow_nil _ _ _ _, Ext.refl _⟩
  case round =>
    obtain ⟨k, hk, rfl, hown, hext⟩ := hrel
    rcases Nat.lt_or_ge k b.length with hlt | hge
    · have hlz : (k : Int) < (b.length : Int) := by omega
      obtain ⟨g, o, rfl, hc⟩ := HC.out (by intro e; have := congrArg List.length e; simp [bytesV] at this; subst this; simp at hlt)
      have kc := hext.cell ((hc k (by rw [bytesV_len]; exact hlt)).trans (show (bytesV b)[k]? = some (.int .u8 (b[k].toNat : Int)) by simp [bytesV, hlt]))
      have zc := cell_lt kc
      simp only at zc
      have SN := Lib.hid (show bytesV (b.take (k + 1)) = bytesV (b.take k) ++ [.int .u8 (b[k].toNat : Int)] by rw [take_snoc hlt]; unfold bytesV; rw [List.map_append]; rfl)
      clear hc
      generalize b[k] = y at *
      have hrow := hown.lt
      have hn2 : k + 1 ≤ maxLen := by unfold maxLen; omega
      have hn3 : (k + 1) * 1 ≤ 140737488355328 := by omega
      have hbase := hext.size
      go_wp2_with (at_builtin; refine wpList_append_own _ rfl _ _ 37 rfl w.heap.size 5 i0 _ 1 1 Tryd.underlying37 hi0 hz0 hz1 hz2 rfl (by decide) _ _ _ rfl (hown.alloc _) ⟨wr.heap.size, 0, none⟩ 1 1 [.int .u8 (y.toNat : Int)] rfl rfl (newsC_1 _ _ _) (by simp [Value.oneCell']) hn2 hn3 (by simp; omega) ?_; intro v' w1 hown1 hgrow _)
      have X1 : Ext w w1 := Ext.grown (hext.alloc _) hgrow (fun r hr => (hrow r hr).1)
      have O2 := Lib.hid hown1
      clear hown hgrow hrow hown1 kc
      go_wp2_with fail
      exact ⟨⟨k + 1, by omega, by go_num, by rw [SN.out]; exact O2.out, X1⟩, by simp [intOf]; omega⟩
    · have hlz : ¬ (k : Int) < (b.length : Int) := by omega
      obtain rfl : k = b.length := by omega
      rw [List.take_length] at hown
      have HO := Lib.hid hown
      clear hown HC
      go_wp2
      go_ret
      exact ⟨_, rfl, hext, HO.out⟩
def DefL.zero : DefL := ⟨[], [], 0⟩
theorem RowV.ints {w : World} {v : Value} {l : List Int} (h : RowV w v (l.map (Value.int .i64))) : Row .i64 w v l := by
  obtain ⟨a, cap, rfl, h1, h2, h3⟩ := h
  have e : (l.map (Value.int .i64)).length = l.length := by simp
  rw [e] at h1 h3 ⊢
  refine ⟨a, cap, rfl, h1, h2, fun hn => ?_⟩
  obtain ⟨g, o, rfl, hc⟩ := h3 (by intro h; apply hn; exact List.map_eq_nil_iff.1 h)
  refine ⟨g, o, rfl, fun i hi => ?_⟩
  rw [hc i hi, List.getElem?_map, List.getD_eq_getElem?_getD, List.getElem?_eq_getElem hi]
  rfl
theorem num26_any (x : Int) (w : World) : Calls Tryd.prog 10 #[.int .i64 x] w fun e w' => e = .returned (.int .i64 x) ∧ w = w' := by
  go_enter Tryd.func10, Tryd.ntmps10
  go_wp2
  go_ret
  exact ⟨rfl, rfl⟩
theorem DefNew.ext {base : Nat} {w w' : World} {v : Value} {d : DefL} (h : DefNew base w v d) (x : Ext w w') : DefNew base w' v d := by
  obtain ⟨iv, lv, rfl, h1, h2⟩ := h.is
  exact ⟨⟨iv, lv, rfl, own_old h1 x, (h2.ext x).mono (fun b hb => ⟨hb.1, Nat.lt_of_lt_of_le hb.2 x.size⟩)⟩⟩
def ParseT (w : World) (P : Option DefL × Nat) (e : Ending) (w' : World) : Prop :=
  ∃ dv, e = .returned (.tuple #[dv, .int .i64 (P.2 : Int), .int .i64 (if P.1.isSome then 0 else 1)]) ∧ Ext w w' ∧ DefNew w.heap.size w' dv (P.1.getD DefL.zero)
theorem zero_new (base : Nat) (w : World) : DefNew base w zeroDef DefL.zero := ⟨⟨_, _, rfl, World.ownsRow_nil _ _ _ _, MyLays.nil _ _ _⟩⟩
theorem parseT_all {v : Value} {b : Bs} {w : World} (h : RowV w v (bytesV b)) : Calls Tryd.prog 13 #[v] w (ParseT w (parseS b)) := by
  by_cases hb : b.length ≤ 8192
  · refine (parse_any h hb).mono fun e w' hp => ?_
    obtain ⟨dv, h1, h2, h3, h4⟩ := hp
    refine ⟨dv, h1, h2, ?_⟩
    cases hp : (parseS b).1 with
    | none => rw [h3 hp]; exact zero_new _ _
    | some d => exact h4 d hp
  · have e : parseS b = (none, 0) := by unfold parseS; rw [if_pos (by omega)]
    refine (parse_big h (by omega)).mono fun e' w' hp => ?_
    obtain ⟨rfl, x⟩ := hp
    rw [e]
    exact ⟨_, rfl, x, zero_new _ _⟩
def wakeB : Bs := [105, 110, 112, 117, 116, 32, 50, 10, 108, 105, 110, 101, 97, 114, 32, 50, 32, 51, 10, 108, 111, 115, 115, 32, 120, 101, 110, 116, 10]
theorem wake_is : parseS wakeB = (some ⟨[2], [.mk ⟨1, 2, 3, 0, 0, 0, 0, 0⟩ []], 1⟩, 0) := by kernel_rfl
set_option maxHeartbeats 2000000 in
set_option maxRecDepth 100000 in
theorem wakes26 (w : World) : Calls Tryd.prog 11 #[] w fun e w' => e = .returned (.bool true) ∧ Ext w w' := by
  obtain ⟨C, hC⟩ : ∃ C : Array Value, (bytesV wakeB).toArray = C := ⟨_, rfl⟩
  have hR : RowV (w.alloc (.cells C 5 (C.size, C.size + 1))) (.slice (some ⟨w.heap.size, 0, none⟩) 29 29) (bytesV wakeB) := by
    refine ⟨_, _, rfl, by decide, by decide, fun _ => ⟨_, 0, rfl, fun i _ => ?_⟩⟩
    rw [cell_of_row _ w.heap.size (0 + i) C 5 (C.size, C.size + 1) (heap_alloc_new w _), Nat.zero_add, ← hC]
    simp
  have PA := Lib.hid (parseT_all hR)
  rw [wake_is] at PA
  have hC2 : (#[.int .u8 105, .int .u8 110, .int .u8 112, .int .u8 117, .int .u8 116, .int .u8 32, .int .u8 50, .int .u8 10, .int .u8 108, .int .u8 105, .int .u8 110, .int .u8 101, .int .u8 97, .int .u8 114, .int .u8 32, .int .u8 50, .int .u8 32, .int .u8 51, .int .u8 10, .int .u8 108, .int .u8 111, .int .u8 115, .int .u8 115, .int .u8 32, .int .u8 120, .int .u8 101, .int .u8 110, .int .u8 116, .int .u8 10] : Array Value) = C := by rw [← hC]; rfl
  have kc := fun (w : World) (C : Array Value) (n c : Nat) => Lib.run_convert_bytes_const (P := Tryd.prog) w 37 5 C n c Tryd.underlying37 Tryd.underlying5
  clear hC hR
  go_enter Tryd.func11, Tryd.ntmps11
  go_wp2_with fail
  refine PA.out.mono ?_
  rintro e w2 ⟨dv, rfl, x2, hd⟩
  obtain ⟨iv, lv, rfl, o1, m1⟩ := hd.is
  obtain ⟨a1, c1, rfl⟩ := own_form0 o1
  obtain ⟨a2, c2, hlv, -, hL⟩ := m1.1
  subst hlv
  obtain ⟨b, o, rfl, -, hc⟩ := hL (by simp)
  obtain ⟨bv, -, hc9, -⟩ := hc 0 (by simp)
  have f2 : w2.cell? ⟨b, o + 2, none⟩ = some (.int .i64 3) := hc9 2 (by omega)
  have zf := cell_lt f2
  simp only at zf
  have XW : Ext w w2 := Ext.tr ((Ext.refl w).alloc _) x2
  clear PA kc hC2 hd o1 m1 hL hc hc9 x2
  go_wp2_with (go_at_call 10; refine (num26_any _ _).mono ?_; rintro e w' ⟨rfl, rfl⟩)
  go_ret
  exact ⟨rfl, (by repeat (first | with_reducible exact Ext.refl _ | with_reducible apply Ext.drew | with_reducible apply Ext.drewN | with_reducible apply Ext.alloc | ((with_reducible refine Ext.setCell ?_ ?_ _); rotate_left; focus (first | (simp; done) | (simp; omega) | omega)) | with_reducible refine Ext.tr ?_ x1 | with_reducible refine Ext.tr ?_ x2 | with_reducible refine Ext.tr ?_ x3 | with_reducible refine Ext.tr ?_ x9 | with_reducible refine Ext.tr ?_ hext | with_reducible assumption))⟩
theorem DefNew.at {base : Nat} {w : World} {v : Value} {d : DefL} (h : DefNew base w v d) : DefAt (fun b => base ≤ b ∧ b < w.heap.size) 5 w v d := by
  obtain ⟨iv, lv, rfl, h1, h2⟩ := h.is
  obtain ⟨a1, c1, rfl⟩ := own_form0 h1
  obtain ⟨a2, c2, rfl⟩ := h2.form
  exact ⟨⟨a1, c1, a2, c2, rfl, (RowV.of_owns h1).ints, h2.1⟩, fun b hb => hb.2⟩
/-- What is read is told as it stood. -/
theorem parseS_text {b : Bs} {d : DefL} (h : (parseS b).1 = some d) : goodD d = true ∧ printS d = b := by
  unfold parseS at h
  split at h
  · cases h
  · obtain ⟨n, hn⟩ : ∃ n, parseP ((cutAt 10 b).dropLast.map wordsS) (restB b) = (some d, n) := ⟨_, Prod.ext h rfl⟩
    exact parse_text hn
set_option maxHeartbeats 100000000 in
set_option maxRecDepth 100000 in
theorem dtexts_walk (b o len cap : Nat) (w : World) (_hl : len ≤ 9223372036854775807) (hT : ListsB w b o len) (hTab : TabW w) :
    Calls Tryd.prog 5 #[.slice (some ⟨b, o, none⟩) len cap] w fun e w' => e = .returned (.bool true) ∧ Ext w w' := by
  have HT := Lib.hid hT
  have HTW := Lib.hid hTab
  clear hT hTab
  go_enter Tryd.func5, Tryd.ntmps5
  go_wp2_with fail
  go_loopw [3] (fun i wr => ∃ k : Nat, k ≤ len ∧ i = .int .i64 k ∧ Ext w wr) (fun i _ => len - (intOf i).toNat)
  case atStart => exact ⟨0, Nat.zero_le _, rfl, Ext.refl _⟩
  case round =>
    obtain ⟨k, hk, rfl, hext⟩ := hrel
    obtain ⟨wo, rfl⟩ : ∃ wo : World, wo = wr := ⟨_, rfl⟩
    by_cases hlt : k < len ∧ k < 8
    · obtain ⟨h1, h2⟩ := hlt
      have h1z : (k : Int) < (len : Int) := by omega
      have h2z : (k : Int) < 8 := by omega
      obtain ⟨v, l, hc, hr⟩ := HT.out k h1
      have c0 := hext.cell hc
      have z0 := cell_lt c0
      simp only at z0
      have HR := Lib.hid (hr.ext hext)
      obtain ⟨a, lcap, rfl, -, -, -⟩ := hr
      rw [bytesV_len] at HR c0
      clear hc
      by_cases hbig : (10000 : Int) < (l.length : Int)
      · clear HR
        go_wp2
        go_ret
        exact ⟨rfl, hext⟩
      · have CB := Lib.hid (copyBytes_any HR.out (by omega))
        have XWO := Lib.hid hext
        obtain ⟨P, hP⟩ : ∃ P, parseS l = P := ⟨_, rfl⟩
        obtain ⟨N, hN⟩ : ∃ N : Nat, P.2 = N := ⟨_, rfl⟩
        have HPT := Lib.hid (fun d (h : P.1 = some d) => parseS_text (b := l) (d := d) (by rw [hP]; exact h))
        have PX := Lib.hid (fun (u : Value) (W : World) (h : RowV W u (bytesV l)) => (show Calls Tryd.prog 13 #[u] W (ParseT W P) by rw [← hP]; exact parseT_all h))
        clear hP
        go_wp2_with fail
        refine CB.out.mono ?_
        rintro e v1 ⟨u, rfl, x1, own⟩
        obtain ⟨ua, uc, rfl⟩ := own_form0 own
        have RU := Lib.hid (show RowV v1 (.slice ua l.length uc) (bytesV l) from RowV.of_owns own)
        have c1 := x1.cell c0
        have zb1 : b < v1.heap.size := cell_lt c1
        have X1 := XWO.out.tr x1
        clear CB own c0
        go_wp2_with fail
        refine (PX.out _ _ RU.out).mono ?_
        rintro e v2 hp
        obtain ⟨dv, rfl, x2, D1⟩ := hp
        have DN := Lib.hid D1
        have c2 := x2.cell c1
        have zb2 : b < v2.heap.size := cell_lt c2
        have X2 := X1.tr x2
        have HRv := Lib.hid ((HR.out.ext x1).ext x2)
        obtain ⟨iv, lv, rfl, o1, m1⟩ := D1.is
        obtain ⟨ia, ic, rfl⟩ := own_form0 o1
        obtain ⟨la, lc, rfl⟩ := m1.form
        clear PX c1 o1 m1 D1
        obtain ⟨O, hO⟩ : ∃ O, P.1 = O := ⟨_, rfl⟩
        rw [hO] at HPT DN ⊢
        rw [hN]
        clear hO hN
        cases O with
        | none =>
          have zz : ((1 : Int) != 0) = true := by decide
          simp only [Option.isSome_none, Bool.false_eq_true, if_false]
          go_wp2_with (go_at_call 10; refine (num26_any _ _).mono ?_; rintro e w' ⟨rfl, rfl⟩)
          exact ⟨⟨k + 1, by omega, by go_num, X2.tr (by repeat (first | with_reducible exact Ext.refl _ | with_reducible apply Ext.drew | with_reducible apply Ext.drewN | with_reducible apply Ext.alloc | ((with_reducible refine Ext.setCell ?_ ?_ _); rotate_left; focus (first | (simp; done) | (simp; omega) | omega)) | with_reducible refine Ext.tr ?_ x1 | with_reducible refine Ext.tr ?_ x2 | with_reducible refine Ext.tr ?_ x3 | with_reducible refine Ext.tr ?_ x9 | with_reducible refine Ext.tr ?_ hext | with_reducible assumption))⟩, by simp [intOf]; omega⟩
        | some d =>
          obtain ⟨pg, pt⟩ := HPT.out d rfl
          simp only [Option.isSome_some, if_true, Option.getD_some] at DN ⊢
          have PRT := Lib.hid (fun W (x : Ext v2 W) => print_any ((DN.out.at).ext x) (((HTW.out.ext X2)).ext x))
          obtain ⟨L, hL⟩ : ∃ L, ba l = L := ⟨_, rfl⟩
          have CV := Lib.hid (fun W (x : Ext v2 W) => bytes_str (HRv.out.ext x) 9 Tryd.underlying9)
          rw [hL] at CV
          have LN : (L.toList != L.toList) = false := by simp
          have HLL := Lib.hid hL
          have HPG := Lib.hid pg
          have HPP := Lib.hid pt
          clear hL pg pt
          go_wp2_with (go_at_call 10; refine (num26_any _ _).mono ?_; rintro e w' ⟨rfl, rfl⟩)
          refine (PRT.out _ (by repeat (first | with_reducible exact Ext.refl _ | with_reducible apply Ext.drew | with_reducible apply Ext.drewN | with_reducible apply Ext.alloc | ((with_reducible refine Ext.setCell ?_ ?_ _); rotate_left; focus (first | (simp; done) | (simp; omega) | omega)) | with_reducible refine Ext.tr ?_ x1 | with_reducible refine Ext.tr ?_ x2 | with_reducible refine Ext.tr ?_ x3 | with_reducible refine Ext.tr ?_ x9 | with_reducible refine Ext.tr ?_ hext | with_reducible assumption))).mono ?_
          rintro e v3 hp3
          obtain ⟨rfl, x3⟩ := hp3
          rw [HPG.out, if_pos rfl, if_pos rfl, HPP.out, HLL.out]
          have x23 : Ext v2 v3 := (by repeat (first | with_reducible exact Ext.refl _ | with_reducible apply Ext.drew | with_reducible apply Ext.drewN | with_reducible apply Ext.alloc | ((with_reducible refine Ext.setCell ?_ ?_ _); rotate_left; focus (first | (simp; done) | (simp; omega) | omega)) | with_reducible refine Ext.tr ?_ x1 | with_reducible refine Ext.tr ?_ x2 | with_reducible refine Ext.tr ?_ x3 | with_reducible refine Ext.tr ?_ x9 | with_reducible refine Ext.tr ?_ hext | with_reducible assumption))
          have c3 := x23.cell c2
          have zb3 : b < v3.heap.size := cell_lt c3
          have cv := CV.out v3 x23
          have XF := Lib.hid (X2.tr x23)
          clear PRT CV c2
          go_wp2_with (go_at_call 10; refine (num26_any _ _).mono ?_; rintro e w' ⟨rfl, rfl⟩)
          exact ⟨⟨k + 1, by omega, by go_num, XF.out⟩, by simp [intOf]; omega⟩
    · have hor : ¬ (k : Int) < (len : Int) ∨ ((k : Int) < (len : Int) ∧ ¬ (k : Int) < 8) := by omega
      rcases hor with h1z | ⟨h1z, h2z⟩
      all_goals
        clear HT
        go_wp2_with (go_at_call 11; refine (wakes26 _).mono ?_; rintro e w' ⟨rfl, x9⟩)
        go_ret
        exact ⟨rfl, hext.tr x9⟩
set_option maxRecDepth 100000 in
theorem dtexts_any {H : Type} {enc : TypeId × Value → H} {w : World} {base : Nat} {v : Value} {d : DataW H} {p : List MemPlace}
    (hv : Value.okWide Tryd.prog w .any base 39 v) (h : DataW.Trod enc Tryd.prog w 0 (fun _ => true) true 39 v d p) (hTab : TabW w) :
    Calls Tryd.prog 5 #[v] w fun e w' => e = .returned (.bool true) ∧ Ext w w' := by
  rcases lists_open hv h with ⟨a, cap, rfl⟩ | ⟨b, o, len, cap, rfl, h0, h1, hL⟩
  · clear hv h
    go_enter Tryd.func5, Tryd.ntmps5
    go_wp2_with fail
    go_loopw [3] (fun i wr => i = .int .i64 0 ∧ wr = w) (fun _ _ => 0)
    case atStart => exact ⟨rfl, rfl⟩
    case round =>
      obtain ⟨rfl, hwr⟩ := hrel
      subst hwr
      go_wp2_with (go_at_call 11; refine (wakes26 _).mono ?_; rintro e w' ⟨rfl, x9⟩)
      go_ret
      exact ⟨rfl, x9⟩
  · exact dtexts_walk b o len cap w h1 hL hTab
end Go.Proofs.YtkdfenkpfffcaaaDoor
