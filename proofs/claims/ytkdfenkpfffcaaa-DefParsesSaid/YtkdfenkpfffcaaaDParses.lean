/- DefParses: the walk. -/
import Derived.Test.YtkdfenkpfffcaaaDefLaw1
import Derived.Test.YtkdfenkpfffcaaaAskBytes
import Derived.Lib.SlBytesConst
namespace Go.Proofs.Ytkdfenkpfffcaaa
open Go.RowKit Go.WideShapes Go.ChangeShapes
def wakeB : Bs := [105, 110, 112, 117, 116, 32, 50, 10, 108, 105, 110, 101, 97, 114, 32, 50, 32, 51, 10, 108, 111, 115, 115, 32, 120, 101, 110, 116, 10]
theorem wake_is : parseS wakeB = (some ⟨[2], [.mk ⟨1, 2, 3, 0, 0, 0, 0, 0⟩ []], 1⟩, 0) := by kernel_rfl
set_option maxHeartbeats 2000000 in
set_option maxRecDepth 100000 in
theorem wakes26 (w : World) : Calls Try.prog 15 #[] w fun e w' => e = .returned (.bool true) ∧ Ext w w' := by
  obtain ⟨C, hC⟩ : ∃ C : Array Value, (bytesV wakeB).toArray = C := ⟨_, rfl⟩
  have hR : RowV (w.alloc (.cells C 5 (C.size, C.size + 1))) (.slice (some ⟨w.heap.size, 0, none⟩) 29 29) (bytesV wakeB) := by
    refine ⟨_, _, rfl, by decide, by decide, fun _ => ⟨_, 0, rfl, fun i _ => ?_⟩⟩
    rw [cell_of_row _ w.heap.size (0 + i) C 5 (C.size, C.size + 1) (heap_alloc_new w _), Nat.zero_add, ← hC]
    simp
  have PA := Lib.hid (parse_all hR)
  rw [wake_is] at PA
  have hC2 : (#[.int .u8 105, .int .u8 110, .int .u8 112, .int .u8 117, .int .u8 116, .int .u8 32, .int .u8 50, .int .u8 10, .int .u8 108, .int .u8 105, .int .u8 110, .int .u8 101, .int .u8 97, .int .u8 114, .int .u8 32, .int .u8 50, .int .u8 32, .int .u8 51, .int .u8 10, .int .u8 108, .int .u8 111, .int .u8 115, .int .u8 115, .int .u8 32, .int .u8 120, .int .u8 101, .int .u8 110, .int .u8 116, .int .u8 10] : Array Value) = C := by rw [← hC]; rfl
  have kc := fun (w : World) (C : Array Value) (n c : Nat) => Lib.run_convert_bytes_const (P := Try.prog) w 23 5 C n c Try.underlying23 Try.underlying5
  clear hC hR
  go_enter Try.func15, Try.ntmps15
  go_wp2_with fail
  refine PA.out.mono ?_
  rintro e w2 ⟨dv, rfl, x2, hd⟩
  obtain ⟨iv, lv, rfl, o1, m1⟩ := hd.is
  obtain ⟨a1, c1, rfl⟩ := own_form0 o1
  obtain ⟨a2, c2, hlv, -, hL⟩ := m1.1
  subst hlv
  obtain ⟨b, o, rfl, -, hc⟩ := hL (by simp)
  obtain ⟨bv, -, hc9, -⟩ := hc 0 (by simp)
  have f2 : w2.cell? ⟨b, o + 2, none⟩ = some (.int .i64 3) := hc9 2 (by omega)
  have zf := cell_lt f2
  simp only at zf
  have XW : Ext w w2 := Ext.tr ((Ext.refl w).alloc _) x2
  clear PA kc hC2 hd o1 m1 hL hc hc9 x2
  go_wp2_with (go_at_call 10; refine (num26_any _ _).mono ?_; rintro e w' ⟨rfl, rfl⟩)
  go_ret
  exact ⟨rfl, (by repeat (first | with_reducible exact Ext.refl _ | with_reducible apply Ext.drew | with_reducible apply Ext.drewN | with_reducible apply Ext.alloc | ((with_reducible refine Ext.setCell ?_ ?_ _); rotate_left; focus (first | (simp; done) | (simp; omega) | omega)) | with_reducible refine Ext.tr ?_ x1 | with_reducible refine Ext.tr ?_ x2 | with_reducible refine Ext.tr ?_ x3 | with_reducible refine Ext.tr ?_ x4 | with_reducible refine Ext.tr ?_ x5 | with_reducible refine Ext.tr ?_ x6 | with_reducible refine Ext.tr ?_ x9 | with_reducible refine Ext.tr ?_ hext | with_reducible assumption))⟩
set_option maxHeartbeats 100000000 in
set_option maxRecDepth 100000 in
theorem dparses_walk (b o len cap : Nat) (w : World) (_hl : len ≤ 9223372036854775807) (hT : ListsB w b o len) :
    Calls Try.prog 3 #[.slice (some ⟨b, o, none⟩) len cap] w fun e w' => e = .returned (.bool true) ∧ Ext w w' := by
  have HT := Lib.hid hT
  clear hT
  go_enter Try.func3, Try.ntmps3
  go_wp2_with fail
  go_loopw [3] (fun i wr => ∃ k : Nat, k ≤ len ∧ i = .int .i64 k ∧ Ext w wr) (fun i _ => len - (intOf i).toNat)
  case atStart => exact ⟨0, Nat.zero_le _, rfl, Ext.refl _⟩
  case round =>
    obtain ⟨k, hk, rfl, hext⟩ := hrel
    obtain ⟨wo, rfl⟩ : ∃ wo : World, wo = wr := ⟨_, rfl⟩
    by_cases hlt : k < len ∧ k < 8
    · obtain ⟨h1, h2⟩ := hlt
      have h1z : (k : Int) < (len : Int) := by omega
      have h2z : (k : Int) < 8 := by omega
      obtain ⟨v, l, hc, hr⟩ := HT.out k h1
      have c0 := hext.cell hc
      have z0 := cell_lt c0
      simp only at z0
      have HR := Lib.hid (hr.ext hext)
      obtain ⟨a, lcap, rfl, -, -, -⟩ := hr
      rw [bytesV_len] at HR c0
      clear hc
      by_cases hbig : (10000 : Int) < (l.length : Int)
      · clear HR
        go_wp2
        go_ret
        exact ⟨rfl, hext⟩
      · have CB := Lib.hid (copyBytes_any HR.out (by omega))
        have XWO := Lib.hid hext
        obtain ⟨P, hP⟩ : ∃ P, parseS l = P := ⟨_, rfl⟩
        obtain ⟨E, hE⟩ : ∃ E : Int, (if P.1.isSome then 0 else 1) = E := ⟨_, rfl⟩
        obtain ⟨N, hN⟩ : ∃ N : Nat, P.2 = N := ⟨_, rfl⟩
        have HD : Hid ((P.1.getD DefL.zero).input.length ≤ 3) := Lib.hid (by
          cases h : P.1 with
          | none => simp [DefL.zero]
          | some d => exact parseS_len (by rw [hP]; exact h))
        have PX : Hid (∀ (u : Value) (W : World), RowV W u (bytesV l) → Calls Try.prog 8 #[u] W fun e w' => ∃ dv, e = .returned (.tuple #[dv, .int .i64 (N : Int), .int .i64 E]) ∧ Ext W w' ∧ DefNew W.heap.size w' dv (P.1.getD DefL.zero)) := Lib.hid (fun u W h => by rw [← hE, ← hN, ← hP]; exact parse_all h)
        have PY : Hid (∀ (u : Value) (W : World), RowV W u (bytesV l) → Calls Try.prog 9 #[u] W fun e w' => ∃ dv, e = .returned (.tuple #[dv, .int .i64 (N : Int), .int .i64 E]) ∧ Ext W w' ∧ DefNew W.heap.size w' dv (P.1.getD DefL.zero)) := Lib.hid (fun u W h => by rw [← hE, ← hN, ← hP]; exact parseRef_all h)
        clear hP hE hN
        obtain ⟨d, hd⟩ : ∃ d, P.1.getD DefL.zero = d := ⟨_, rfl⟩
        rw [hd] at HD PX PY
        clear hd P
        go_wp2_with fail
        refine CB.out.mono ?_
        rintro e v1 ⟨u, rfl, x1, own⟩
        obtain ⟨ua, uc, rfl⟩ := own_form0 own
        have RU := Lib.hid (show RowV v1 (.slice ua l.length uc) (bytesV l) from RowV.of_owns own)
        have HR1 := Lib.hid (HR.out.ext x1)
        have c1 := x1.cell c0
        have zb1 : b < v1.heap.size := cell_lt c1
        have z1 := x1.size
        clear CB own c0 HR
        go_wp2_with fail
        refine (PX.out _ _ RU.out).mono ?_
        rintro e v2 ⟨dv, rfl, x2, D1⟩
        have HD1 := Lib.hid D1
        obtain ⟨iv, lv, rfl, o1, m1⟩ := D1.is
        obtain ⟨ia, ic, rfl⟩ := own_form0 o1
        obtain ⟨la, lc, rfl⟩ := m1.form
        have OI := Lib.hid o1
        have ML := Lib.hid m1
        have c2 := x2.cell c1
        have zb2 : b < v2.heap.size := cell_lt c2
        have z2 := x2.size
        have XA : Ext v1 (v2.alloc (.cells #[.slice ia d.input.length ic, .slice la d.layers.length lc, .int .i64 d.loss] 28)) := x2.alloc _
        have XB : Ext v2 (v2.alloc (.cells #[.slice ia d.input.length ic, .slice la d.layers.length lc, .int .i64 d.loss] 28)) := (Ext.refl v2).alloc _
        have HR2 := Lib.hid (HR1.out.ext XA)
        have BA := Lib.hid (Blk.new v2 28 #[.slice ia d.input.length ic, .slice la d.layers.length lc, .int .i64 d.loss])
        clear PX o1 m1 c1
        go_wp2_with fail
        refine (PY.out _ _ HR2.out).mono ?_
        rintro e v3 ⟨dw, rfl, x3, D2⟩
        have HD2 := Lib.hid D2
        obtain ⟨iw, lw, rfl, o2, m2⟩ := D2.is
        obtain ⟨ja, jc, rfl⟩ := own_form0 o2
        obtain ⟨ma, mc, rfl⟩ := m2.form
        obtain ⟨V, hV⟩ : ∃ V : World, v3.alloc (.cells #[.slice ja d.input.length jc, .slice ma d.layers.length mc, .int .i64 d.loss] 28) = V := ⟨_, rfl⟩
        have x4 : Ext v3 V := by rw [← hV]; exact (Ext.refl v3).alloc _
        have X13 : Ext v1 V := (XA.tr x3).tr x4
        have X23 : Ext v2 V := (XB.tr x3).tr x4
        have BB := Lib.hid (show Blk V v3.heap.size 28 #[.slice ja d.input.length jc, .slice ma d.layers.length mc, .int .i64 d.loss] by rw [← hV]; exact Blk.new v3 _ _)
        have BA2 := Lib.hid ((BA.out.ext x3).ext x4)
        have ED := Lib.hid (fun u (x : Ext V u) => eqDef_same ((HD1.out.ext X23).ext x) ((HD2.out.ext x4).ext x))
        have EB := Lib.hid (fun u (x : Ext v1 u) => eqBytes_same (RU.out.ext x) (HR1.out.ext x))
        have c3 := X23.cell c2
        have zb3 : b < V.heap.size := cell_lt c3
        obtain ⟨k0, k1, k2, q0, q1, q2, zk⟩ := BA2.out.three
        obtain ⟨r0, r1, r2, s0, s1, s2, zr⟩ := BB.out.three
        have E1 : (E != E) = false := by simp
        have E2 : ((N : Int) != (N : Int)) = false := by simp
        clear c2 HR2 o2 m2 BA PY
        go_upto_region 9 with (fail)
        clear hV
        go_wp2_with (go_at_call 10; refine (num26_any _ _).mono ?_; rintro e w' ⟨rfl, rfl⟩)
        refine (ED.out _ (Ext.refl _)).mono ?_
        rintro e v4 ⟨rfl, x5⟩
        have c4 := x5.cell c3
        have zb4 : b < v4.heap.size := cell_lt c4
        have X14 := X13.tr x5
        clear k0 k1 k2 q0 q1 q2 r0 r1 r2 s0 s1 s2 c3 ED
        go_wp2_with fail
        refine (EB.out _ X14).mono ?_
        rintro e v5 ⟨rfl, n5, hv5⟩
        have x6 : Ext v4 v5 := by rw [hv5]; exact (Ext.refl v4).drewN _
        have X15 := X14.tr x6
        have X25 := (X23.tr x5).tr x6
        have c5 := x6.cell c4
        have zb5 : b < v5.heap.size := cell_lt c5
        have BA3 := Lib.hid ((BA2.out.ext x5).ext x6)
        obtain ⟨k0, k1, k2, q0, q1, q2, zk5⟩ := BA3.out.three
        have NU := Lib.hid (numbers0_any (own_old OI.out X25) (by have := HD.out; omega) X15.size)
        have OL5 := Lib.hid ((ML.out.ext X25).2)
        have RI := Lib.hid (fun r (hr : (Value.slice ia d.input.length ic).ownBlock = some r) => own_cells (own_old OI.out X25) hr)
        have RJ := Lib.hid (fun r (hr : (Value.slice ia d.input.length ic).ownBlock = some r) => OI.out.lt r hr)
        clear hv5 c4 X14 BA2
        go_wp2_with fail
        refine NU.out.mono ?_
        rintro e v6 ⟨rfl, hg⟩
        have k6 := hg.cell k1 (fun e => absurd (show v2.heap.size < v2.heap.size from (RJ.out _ e.symm).2) (Nat.lt_irrefl _))
        have c6 := hg.cell c5 (fun e => by have h1 := RJ.out _ e.symm; have h2 : b < v1.heap.size := zb1; have h3 : v1.heap.size ≤ b := h1.1; omega)
        have X16 : Ext v1 v6 := Ext.grown X15 hg (fun r e => (RJ.out r e).1)
        have zb6 : b < v6.heap.size := cell_lt c6
        have zk6 : v2.heap.size < v6.heap.size := cell_lt k6
        have OL6 := OL5.out.off hg RI.out
        have LA := Lib.hid (layers0_any 5 _ v1.heap.size _ v6 OL6 (fun b hb => hb.1) X16.size)
        clear NU OL5 RI OL6 hg k0 k1 k2 q0 q1 q2 c5 X15 BA3
        go_wp2_with fail
        refine LA.out.mono ?_
        rintro e v7 ⟨rfl, sp⟩
        have hb7 : Below v1.heap.size v6 v7 := sp.below (fun b hb => hb.1) X16.size
        have X17 : Ext v1 v7 := Below.trans X16 hb7
        have c7 : v7.cell? ⟨b, o + k, none⟩ = some (.slice a l.length lcap) := (Below.cell hb7 (p := ⟨b, o + k, none⟩) zb1).trans c6
        have zb7 : b < v7.heap.size := cell_lt c7
        clear LA sp hb7 c6 k6
        go_wp2_with fail
        refine (EB.out _ X17).mono ?_
        rintro e v8 ⟨rfl, n8, hv8⟩
        have X18 : Ext v1 v8 := by rw [hv8]; exact X17.drewN _
        have XF := Lib.hid (XWO.out.tr (x1.tr X18))
        clear EB hv8 c7
        go_wp2_with fail
        exact ⟨⟨k + 1, by omega, by go_num, XF.out⟩, by simp [intOf]; omega⟩
    · have hor : ¬ (k : Int) < (len : Int) ∨ ((k : Int) < (len : Int) ∧ ¬ (k : Int) < 8) := by omega
      rcases hor with h1z | ⟨h1z, h2z⟩
      all_goals
        clear HT
        go_wp2_with (go_at_call 15; refine (wakes26 _).mono ?_; rintro e w' ⟨rfl, x9⟩)
        go_ret
        exact ⟨rfl, hext.tr x9⟩
set_option maxRecDepth 100000 in
theorem dparses_any {H : Type} {enc : TypeId × Value → H} {w : World} {base : Nat} {v : Value} {d : DataW H} {p : List MemPlace}
    (hv : Value.okWide Try.prog w .any base 22 v) (h : DataW.Trod enc Try.prog w 0 (fun _ => true) true 22 v d p) :
    Calls Try.prog 3 #[v] w fun e w' => e = .returned (.bool true) ∧ Ext w w' := by
  rcases lists_open hv h with ⟨a, cap, rfl⟩ | ⟨b, o, len, cap, rfl, h0, h1, hL⟩
  · clear hv h
    go_enter Try.func3, Try.ntmps3
    go_wp2_with fail
    go_loopw [3] (fun i wr => i = .int .i64 0 ∧ wr = w) (fun _ _ => 0)
    case atStart => exact ⟨rfl, rfl⟩
    case round =>
      obtain ⟨rfl, hwr⟩ := hrel
      subst hwr
      go_wp2_with (go_at_call 15; refine (wakes26 _).mono ?_; rintro e w' ⟨rfl, x9⟩)
      go_ret
      exact ⟨rfl, x9⟩
  · exact dparses_walk b o len cap w h1 hL
end Go.Proofs.Ytkdfenkpfffcaaa
