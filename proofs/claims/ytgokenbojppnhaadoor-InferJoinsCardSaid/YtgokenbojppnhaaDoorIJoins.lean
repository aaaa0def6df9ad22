/- Layer 27: the law's own walk (InferJoins). -/
import Derived.Test.YtgokenbojppnhaaDoorJoinsLaw
import Derived.Test.YtgokenbojppnhaaDoorCopyAcc
import Derived.Test.YtgokenbojppnhaaDoorAskTwo
import Derived.Deep.RegionHeld3
import Derived.BigQuiet
namespace Go.Proofs.YtgokenbojppnhaaDoor
open Go.RowKit
attribute [local go_sem ↓] Go.wp_at_zero Go.wp_at_succ
theorem def_alloc (u : World) : (Instr.alloc 27 true (.tuple #[])).run Tryd.prog u = .ok (.pointer (some ⟨u.heap.size, 0, none⟩)) (u.alloc (.cells #[.slice none 0 0, .slice none 0 0, .int .i64 0] 27)) := by
  simp [go_sem]
theorem def_built (a1 a2 : Option Addr) (n1 c1 n2 c2 : Nat) (ls : Int) : Tryd.prog.built 27 [(0, .slice a1 n1 c1), (1, .slice a2 n2 c2), (2, .int .i64 ls)] = some #[.slice a1 n1 c1, .slice a2 n2 c2, .int .i64 ls] := by kernel_rfl
theorem heads_l (B : List Lay) : B = [] ∨ ∃ f bd ls, B = .mk f bd :: ls := by
  cases B with
  | nil => exact .inl rfl
  | cons l ls => obtain ⟨f, bd⟩ := l; exact .inr ⟨f, bd, ls, rfl⟩
/-- Not too heavy: few layers. -/
theorem weight_slim {L : List Lay} (h : ¬ (100 : Int) < ((weightS 0 0 L : Nat) : Int)) (n : Nat) : Slim n L ∧ L.length ≤ 100 := by
  have h2 : weightS 0 0 L ≤ 100 := by omega
  unfold weightS at h2
  rw [if_neg (by omega)] at h2
  exact ⟨slim_of n (d := 0) (m := 0) (by omega), by have := (weighs_slim L (deep := 0) (n := 0) (by omega)).1; omega⟩
set_option maxHeartbeats 100000000 in
set_option maxRecDepth 100000 in
theorem ijoins_walk (b o len cap : Nat) (w : World) (_hl : len ≤ 9223372036854775807) (hT : TwosAt w b o len) :
    Calls Tryd.prog 4 #[.slice (some ⟨b, o, none⟩) len cap] w fun e w' => e = .returned (.bool true) ∧ Ext w w' := by
  have HT := Lib.hid hT
  clear hT
  go_enter Tryd.func4, Tryd.ntmps4
  go_wp2_with fail
  go_loopw [3] (fun i wr => ∃ k : Nat, k ≤ len ∧ i = .int .i64 k ∧ Ext w wr) (fun i _ => len - (intOf i).toNat)
  case atStart => exact ⟨0, Nat.zero_le _, rfl, Ext.refl _⟩
  case round =>
    obtain ⟨k, hk, rfl, hext⟩ := hrel
    by_cases hlt : k < len ∧ k < 6
    · obtain ⟨h1, h2⟩ := hlt
      have h1z : (k : Int) < (len : Int) := by omega
      have h2z : (k : Int) < 6 := by omega
      obtain ⟨n, iv, av, bv, inp, A, B, c0, c1, c2, T0⟩ := HT.out k h1
      have hrow := T0.row.ext hext
      have hla := T0.layA.ext hext
      have hlb := T0.layB.ext hext
      obtain ⟨a1, cc1, rfl, -⟩ := hrow.form'
      obtain ⟨a2, cc2, rfl⟩ := hla.form
      obtain ⟨a3, cc3, rfl⟩ := hlb.form
      replace c0 := hext.cell c0
      replace c1 := hext.cell c1
      replace c2 := hext.cell c2
      have z0 := cell_lt c0
      simp only at z0
      have HROW := Lib.hid hrow
      have HLA := Lib.hid hla
      have HLB := Lib.hid hlb
      have hbw : ∀ b, b < w.heap.size → b < wr.heap.size := fun b hb => Nat.lt_of_lt_of_le hb hext.size
      have WA := Lib.hid (fun u (x : Ext wr u) => weight_any n _ _ _ 0 0 u (HLA.out.ext x) (fun b hb => Nat.lt_of_lt_of_le (hbw b hb) x.size) (by omega) (by omega))
      have WB := Lib.hid (fun u (x : Ext wr u) => weight_any n _ _ _ 0 0 u (HLB.out.ext x) (fun b hb => Nat.lt_of_lt_of_le (hbw b hb) x.size) (by omega) (by omega))
      have XWO := Lib.hid hext
      obtain ⟨GA, hGA⟩ : ∃ G : Int, ((weightS 0 0 A : Nat) : Int) = G := ⟨_, rfl⟩
      obtain ⟨GB, hGB⟩ : ∃ G : Int, ((weightS 0 0 B : Nat) : Int) = G := ⟨_, rfl⟩
      rw [hGA] at WA
      rw [hGB] at WB
      have HGA := Lib.hid hGA
      have HGB := Lib.hid hGB
      clear hrow hla hlb T0 HT hbw hGA hGB
      go_upto_region 5 with (fail)
      go_cut [52] (fun s52 wx => Ext wr wx ∧ (s52 = .bool true ∨ (s52 = .bool false ∧ ¬ (100 : Int) < GA ∧ ¬ (100 : Int) < GB ∧ inp.length ≤ 10 ∧ Blk wx wr.heap.size 48 #[.slice a1 inp.length cc1, .slice a2 A.length cc2, .slice a3 B.length cc3])))
      case first => as_aux_lemma =>
        have B0 := Blk.new wr 48 #[.slice a1 inp.length cc1, .slice a2 A.length cc2, .slice a3 B.length cc3]
        by_cases ha : (100 : Int) < GA
        · go_wp2_with fail
          refine (WA.out _ (by repeat (first | with_reducible exact Ext.refl _ | with_reducible apply Ext.drew | with_reducible apply Ext.drewN | with_reducible apply Ext.alloc | ((with_reducible refine Ext.setCell ?_ ?_ _); rotate_left; focus (first | (simp; done) | (simp; omega) | omega)) | with_reducible refine Ext.tr ?_ x1 | with_reducible refine Ext.tr ?_ x2 | with_reducible refine Ext.tr ?_ x3 | with_reducible refine Ext.tr ?_ x4 | with_reducible refine Ext.tr ?_ x5 | with_reducible refine Ext.tr ?_ x6 | with_reducible refine Ext.tr ?_ x7 | with_reducible refine Ext.tr ?_ x9 | with_reducible refine Ext.tr ?_ xa | with_reducible refine Ext.tr ?_ xb | with_reducible refine Ext.tr ?_ xc | with_reducible refine Ext.tr ?_ xd | with_reducible refine Ext.tr ?_ xe | with_reducible refine Ext.tr ?_ xf | with_reducible refine Ext.tr ?_ xg | with_reducible refine Ext.tr ?_ hx | with_reducible refine Ext.tr ?_ hext | with_reducible assumption))).mono ?_
          rintro e v1 ⟨rfl, x1⟩
          dsimp only
          clear WA WB c0 c1 c2 B0
          go_wp2_with fail
          go_meet
          exact ⟨(by repeat (first | with_reducible exact Ext.refl _ | with_reducible apply Ext.drew | with_reducible apply Ext.drewN | with_reducible apply Ext.alloc | ((with_reducible refine Ext.setCell ?_ ?_ _); rotate_left; focus (first | (simp; done) | (simp; omega) | omega)) | with_reducible refine Ext.tr ?_ x1 | with_reducible refine Ext.tr ?_ x2 | with_reducible refine Ext.tr ?_ x3 | with_reducible refine Ext.tr ?_ x4 | with_reducible refine Ext.tr ?_ x5 | with_reducible refine Ext.tr ?_ x6 | with_reducible refine Ext.tr ?_ x7 | with_reducible refine Ext.tr ?_ x9 | with_reducible refine Ext.tr ?_ xa | with_reducible refine Ext.tr ?_ xb | with_reducible refine Ext.tr ?_ xc | with_reducible refine Ext.tr ?_ xd | with_reducible refine Ext.tr ?_ xe | with_reducible refine Ext.tr ?_ xf | with_reducible refine Ext.tr ?_ xg | with_reducible refine Ext.tr ?_ hx | with_reducible refine Ext.tr ?_ hext | with_reducible assumption)), .inl rfl⟩
        · go_wp2_with fail
          refine (WA.out _ (by repeat (first | with_reducible exact Ext.refl _ | with_reducible apply Ext.drew | with_reducible apply Ext.drewN | with_reducible apply Ext.alloc | ((with_reducible refine Ext.setCell ?_ ?_ _); rotate_left; focus (first | (simp; done) | (simp; omega) | omega)) | with_reducible refine Ext.tr ?_ x1 | with_reducible refine Ext.tr ?_ x2 | with_reducible refine Ext.tr ?_ x3 | with_reducible refine Ext.tr ?_ x4 | with_reducible refine Ext.tr ?_ x5 | with_reducible refine Ext.tr ?_ x6 | with_reducible refine Ext.tr ?_ x7 | with_reducible refine Ext.tr ?_ x9 | with_reducible refine Ext.tr ?_ xa | with_reducible refine Ext.tr ?_ xb | with_reducible refine Ext.tr ?_ xc | with_reducible refine Ext.tr ?_ xd | with_reducible refine Ext.tr ?_ xe | with_reducible refine Ext.tr ?_ xf | with_reducible refine Ext.tr ?_ xg | with_reducible refine Ext.tr ?_ hx | with_reducible refine Ext.tr ?_ hext | with_reducible assumption))).mono ?_
          rintro e v1 ⟨rfl, x1⟩
          dsimp only
          have B1 := B0.ext x1
          obtain ⟨k0, k1, k2, zk⟩ := B1.three'
          have X1 : Ext wr v1 := (by repeat (first | with_reducible exact Ext.refl _ | with_reducible apply Ext.drew | with_reducible apply Ext.drewN | with_reducible apply Ext.alloc | ((with_reducible refine Ext.setCell ?_ ?_ _); rotate_left; focus (first | (simp; done) | (simp; omega) | omega)) | with_reducible refine Ext.tr ?_ x1 | with_reducible refine Ext.tr ?_ x2 | with_reducible refine Ext.tr ?_ x3 | with_reducible refine Ext.tr ?_ x4 | with_reducible refine Ext.tr ?_ x5 | with_reducible refine Ext.tr ?_ x6 | with_reducible refine Ext.tr ?_ x7 | with_reducible refine Ext.tr ?_ x9 | with_reducible refine Ext.tr ?_ xa | with_reducible refine Ext.tr ?_ xb | with_reducible refine Ext.tr ?_ xc | with_reducible refine Ext.tr ?_ xd | with_reducible refine Ext.tr ?_ xe | with_reducible refine Ext.tr ?_ xf | with_reducible refine Ext.tr ?_ xg | with_reducible refine Ext.tr ?_ hx | with_reducible refine Ext.tr ?_ hext | with_reducible assumption))
          have HB1 := Lib.hid B1
          clear WA c0 c1 c2 B0 x1 B1
          by_cases hb : (100 : Int) < GB
          · go_wp2_with fail
            refine (WB.out _ X1).mono ?_
            rintro e v2 ⟨rfl, x2⟩
            dsimp only
            clear WB
            go_wp2_with fail
            go_meet
            exact ⟨X1.tr x2, .inl rfl⟩
          · go_wp2_with fail
            refine (WB.out _ X1).mono ?_
            rintro e v2 ⟨rfl, x2⟩
            dsimp only
            clear WB
            replace k0 := x2.cell k0
            replace zk := cell_lt k0
            simp only at zk
            have X2 := X1.tr x2
            have HB2 := Lib.hid (HB1.out.ext x2)
            clear x2 X1
            by_cases hi : 10 < inp.length
            · have hiz : (10 : Int) < (inp.length : Int) := by omega
              clear hi
              go_wp2_with fail
              go_meet
              exact ⟨X2, .inl rfl⟩
            · have hiz : ¬ (10 : Int) < (inp.length : Int) := by omega
              have HI := Lib.hid hi
              clear hi
              go_wp2_with fail
              go_meet
              exact ⟨X2, .inr ⟨rfl, ha, hb, by have := HI.out; omega, HB2.out⟩⟩
      case rest =>
        obtain ⟨hx, rfl | ⟨rfl, hga, hgb, hin, hb2⟩⟩ := hcut
        · have X2 := hx
          have XW := XWO.out.tr X2
          clear WA WB c0 c1 c2 z0
          go_wp2_with fail
          go_ret
          exact ⟨rfl, XW⟩
        · obtain ⟨sA, lA⟩ := weight_slim (by rw [HGA.out]; exact hga) n
          obtain ⟨sB, lB⟩ := weight_slim (by rw [HGB.out]; exact hgb) n
          have HSA := Lib.hid sA
          have HSB := Lib.hid sB
          obtain ⟨wa, hwa⟩ : ∃ wa, wa = wc := ⟨_, rfl⟩
          rw [← hwa] at hx hb2 ⊢
          obtain ⟨g0, hg0⟩ : ∃ g, g = wr.heap.size := ⟨_, rfl⟩
          have CA := Lib.hid (fun u (x : Ext wa u) => copyAcc_any n ((HLA.out.ext hx).ext x) HSA.out)
          have CB := Lib.hid (fun u (x : Ext wa u) => copyAcc_any n ((HLB.out.ext hx).ext x) HSB.out)
          have AL := Lib.hid def_alloc
          rw [← hg0] at hb2 ⊢
          have HB := Lib.hid hb2
          have XA := Lib.hid hx
          have hg0w : wr.heap.size ≤ g0 := by omega
          clear WA WB c0 c1 c2 z0 hga hgb hwa sA sB hx hb2 hg0
          go_upto_region 7 with (fail)
          go_cut [5] (fun s5 wx => ∃ (g : Nat) (ra : Option Addr) (rc : Nat), s5 = .pointer (some ⟨g, 0, none⟩) ∧ wa.heap.size ≤ g ∧ Blk wx g 27 #[.slice a1 inp.length cc1, .slice ra (A ++ B).length rc, .int .i64 2] ∧ LaysAt (fun b => b < wx.heap.size) wx (n - 1 + 1) (.slice ra (A ++ B).length rc) (A ++ B) ∧ Ext wa wx)
          case first => as_aux_lemma =>
            have KP := Lib.hid (fun (W : World) (x : Ext wa W) => (show W.cell? ⟨g0, 0, none⟩ = some (.slice a1 inp.length cc1) ∧ W.cell? ⟨g0, 1, none⟩ = some (.slice a2 A.length cc2) ∧ W.cell? ⟨g0, 2, none⟩ = some (.slice a3 B.length cc3) ∧ g0 < W.heap.size ∧ Ext wa W from ⟨(HB.out.ext x).cells 0 rfl, (HB.out.ext x).cells 1 rfl, (HB.out.ext x).cells 2 rfl, (HB.out.ext x).lt, x⟩))
            refine wp_region_held_drew (S := fun w' => w'.cell? ⟨g0, 0, none⟩ = some (.slice a1 inp.length cc1) ∧ w'.cell? ⟨g0, 1, none⟩ = some (.slice a2 A.length cc2) ∧ w'.cell? ⟨g0, 2, none⟩ = some (.slice a3 B.length cc3) ∧ g0 < w'.heap.size ∧ Ext wa w') (by kernel_rfl) ?_ (fun hHeld => ?_)
            · (try dsimp only)
              exact KP.out _ (by repeat (first | with_reducible exact Ext.refl _ | with_reducible apply Ext.drew | with_reducible apply Ext.drewN | with_reducible apply Ext.alloc | ((with_reducible refine Ext.setCell ?_ ?_ _); rotate_left; focus (first | (simp; done) | (simp; omega) | omega)) | with_reducible refine Ext.tr ?_ x1 | with_reducible refine Ext.tr ?_ x2 | with_reducible refine Ext.tr ?_ x3 | with_reducible refine Ext.tr ?_ x4 | with_reducible refine Ext.tr ?_ x5 | with_reducible refine Ext.tr ?_ x6 | with_reducible refine Ext.tr ?_ x7 | with_reducible refine Ext.tr ?_ x9 | with_reducible refine Ext.tr ?_ xa | with_reducible refine Ext.tr ?_ xb | with_reducible refine Ext.tr ?_ xc | with_reducible refine Ext.tr ?_ xd | with_reducible refine Ext.tr ?_ xe | with_reducible refine Ext.tr ?_ xf | with_reducible refine Ext.tr ?_ xg | with_reducible refine Ext.tr ?_ hx | with_reducible refine Ext.tr ?_ hext | with_reducible assumption))
            change wpAnyH _ _ _ _ _ 12 (Array.replicate 12 false) _ _
            refine wpAnyH_take (i := 0) (v := ?_) rfl (by kernel_rfl) (by kernel_rfl) (by kernel_rfl) (fun _ _ _ h => h) (Or.inl ⟨by kernel_rfl, ?_⟩) (by assumption) ?_
            rotate_left
            · (intro w hSw; (try dsimp only at hSw); go_simp; (try with_reducible rfl))
            (try simp only [List.getElem_toArray, List.getElem_cons_zero, Act.put, List.setIfInBounds_toArray, List.set_cons_zero, List.set_cons_succ])
            refine wpAnyH_take (i := 1) (v := ?_) rfl (by kernel_rfl) (by kernel_rfl) (by kernel_rfl) (fun _ _ _ h => h) (Or.inl ⟨by kernel_rfl, ?_⟩) (by assumption) ?_
            rotate_left
            · (intro w hSw; (try dsimp only at hSw); go_simp; (try with_reducible rfl))
            (try simp only [List.getElem_toArray, List.getElem_cons_succ, List.getElem_cons_zero, Act.put, List.setIfInBounds_toArray, List.set_cons_zero, List.set_cons_succ])
            refine wpAnyH_take (i := 2) (v := ?_) rfl (by kernel_rfl) (by kernel_rfl) (by kernel_rfl) (fun _ _ _ h => h) (Or.inl ⟨by kernel_rfl, ?_⟩) (by assumption) ?_
            rotate_left
            · (intro w hSw; (try dsimp only at hSw); go_simp; (try with_reducible rfl))
            (try simp only [List.getElem_toArray, List.getElem_cons_succ, List.getElem_cons_zero, Act.put, List.setIfInBounds_toArray, List.set_cons_zero, List.set_cons_succ])
            refine wpAnyH_take (i := 3) (v := ?_) rfl (by kernel_rfl) (by kernel_rfl) (by kernel_rfl) (fun _ _ _ h => h) (Or.inl ⟨by kernel_rfl, ?_⟩) (by assumption) ?_
            rotate_left
            · (intro w hSw; (try dsimp only at hSw); go_simp; (try with_reducible rfl))
            (try simp only [List.getElem_toArray, List.getElem_cons_succ, List.getElem_cons_zero, Act.put, List.setIfInBounds_toArray, List.set_cons_zero, List.set_cons_succ])
            refine wpAnyH_take (i := 5) (v := ?_) rfl (by kernel_rfl) (by kernel_rfl) (by kernel_rfl) (fun _ _ _ h => h) (Or.inl ⟨by kernel_rfl, ?_⟩) (by assumption) ?_
            rotate_left
            · (intro w hSw; (try dsimp only at hSw); go_simp; (try with_reducible rfl))
            (try simp only [List.getElem_toArray, List.getElem_cons_succ, List.getElem_cons_zero, Act.put, List.setIfInBounds_toArray, List.set_cons_zero, List.set_cons_succ])
            refine wpAnyH_take (i := 6) (v := ?_) rfl (by kernel_rfl) (by kernel_rfl) (by kernel_rfl) (fun _ _ _ h => h) (Or.inl ⟨by kernel_rfl, ?_⟩) (by assumption) ?_
            rotate_left
            · (intro w hSw; (try dsimp only at hSw); go_simp; (try with_reducible rfl))
            (try simp only [List.getElem_toArray, List.getElem_cons_succ, List.getElem_cons_zero, Act.put, List.setIfInBounds_toArray, List.set_cons_zero, List.set_cons_succ])
            refine wpAnyH_ready (rs := [4, 10]) (by kernel_rfl) (by simp) ?_
            refine AllReadyH.cons rfl (fun K hK => ?_) (AllReadyH.cons rfl (fun K hK => ?_) AllReadyH.nil)
            · go_simp
              go_at_call 18
              refine (CA.out _ (by repeat (first | with_reducible exact Ext.refl _ | with_reducible apply Ext.drew | with_reducible apply Ext.drewN | with_reducible apply Ext.alloc | ((with_reducible refine Ext.setCell ?_ ?_ _); rotate_left; focus (first | (simp; done) | (simp; omega) | omega)) | with_reducible refine Ext.tr ?_ x1 | with_reducible refine Ext.tr ?_ x2 | with_reducible refine Ext.tr ?_ x3 | with_reducible refine Ext.tr ?_ x4 | with_reducible refine Ext.tr ?_ x5 | with_reducible refine Ext.tr ?_ x6 | with_reducible refine Ext.tr ?_ x7 | with_reducible refine Ext.tr ?_ x9 | with_reducible refine Ext.tr ?_ xa | with_reducible refine Ext.tr ?_ xb | with_reducible refine Ext.tr ?_ xc | with_reducible refine Ext.tr ?_ xd | with_reducible refine Ext.tr ?_ xe | with_reducible refine Ext.tr ?_ xf | with_reducible refine Ext.tr ?_ xg | with_reducible refine Ext.tr ?_ hx | with_reducible refine Ext.tr ?_ hext | with_reducible assumption))).mono ?_
              rintro e v1 ⟨u1, rfl, x1, hA⟩
              obtain ⟨p1, q1, rfl⟩ := hA.form
              have HA := Lib.hid hA
              have X1 : Ext wa v1 := (by repeat (first | with_reducible exact Ext.refl _ | with_reducible apply Ext.drew | with_reducible apply Ext.drewN | with_reducible apply Ext.alloc | ((with_reducible refine Ext.setCell ?_ ?_ _); rotate_left; focus (first | (simp; done) | (simp; omega) | omega)) | with_reducible refine Ext.tr ?_ x1 | with_reducible refine Ext.tr ?_ x2 | with_reducible refine Ext.tr ?_ x3 | with_reducible refine Ext.tr ?_ x4 | with_reducible refine Ext.tr ?_ x5 | with_reducible refine Ext.tr ?_ x6 | with_reducible refine Ext.tr ?_ x7 | with_reducible refine Ext.tr ?_ x9 | with_reducible refine Ext.tr ?_ xa | with_reducible refine Ext.tr ?_ xb | with_reducible refine Ext.tr ?_ xc | with_reducible refine Ext.tr ?_ xd | with_reducible refine Ext.tr ?_ xe | with_reducible refine Ext.tr ?_ xf | with_reducible refine Ext.tr ?_ xg | with_reducible refine Ext.tr ?_ hx | with_reducible refine Ext.tr ?_ hext | with_reducible assumption))
              have Z1 := Lib.hid x1.size
              clear hA CA
              go_wp2_with fail
              refine hK.out _ _ ?_ (fun hHeld => ?_)
              · (try dsimp only)
                exact KP.out _ (by repeat (first | with_reducible exact Ext.refl _ | with_reducible apply Ext.drew | with_reducible apply Ext.drewN | with_reducible apply Ext.alloc | ((with_reducible refine Ext.setCell ?_ ?_ _); rotate_left; focus (first | (simp; done) | (simp; omega) | omega)) | with_reducible refine Ext.tr ?_ x1 | with_reducible refine Ext.tr ?_ x2 | with_reducible refine Ext.tr ?_ x3 | with_reducible refine Ext.tr ?_ x4 | with_reducible refine Ext.tr ?_ x5 | with_reducible refine Ext.tr ?_ x6 | with_reducible refine Ext.tr ?_ x7 | with_reducible refine Ext.tr ?_ x9 | with_reducible refine Ext.tr ?_ xa | with_reducible refine Ext.tr ?_ xb | with_reducible refine Ext.tr ?_ xc | with_reducible refine Ext.tr ?_ xd | with_reducible refine Ext.tr ?_ xe | with_reducible refine Ext.tr ?_ xf | with_reducible refine Ext.tr ?_ xg | with_reducible refine Ext.tr ?_ hx | with_reducible refine Ext.tr ?_ hext | with_reducible assumption))
              clear hK K
              (try simp only [List.getElem_toArray, List.getElem_cons_succ, List.getElem_cons_zero, Act.put, List.setIfInBounds_toArray, List.set_cons_zero, List.set_cons_succ])
              refine wpAnyH_ready (rs := [7, 10]) (by kernel_rfl) (by simp) ?_
              refine AllReadyH.cons rfl (fun K hK => ?_) (AllReadyH.cons rfl (fun K hK => ?_) AllReadyH.nil)
              · go_simp
                go_at_call 18
                refine (CB.out _ (by repeat (first | with_reducible exact Ext.refl _ | with_reducible apply Ext.drew | with_reducible apply Ext.drewN | with_reducible apply Ext.alloc | ((with_reducible refine Ext.setCell ?_ ?_ _); rotate_left; focus (first | (simp; done) | (simp; omega) | omega)) | with_reducible refine Ext.tr ?_ x1 | with_reducible refine Ext.tr ?_ x2 | with_reducible refine Ext.tr ?_ x3 | with_reducible refine Ext.tr ?_ x4 | with_reducible refine Ext.tr ?_ x5 | with_reducible refine Ext.tr ?_ x6 | with_reducible refine Ext.tr ?_ x7 | with_reducible refine Ext.tr ?_ x9 | with_reducible refine Ext.tr ?_ xa | with_reducible refine Ext.tr ?_ xb | with_reducible refine Ext.tr ?_ xc | with_reducible refine Ext.tr ?_ xd | with_reducible refine Ext.tr ?_ xe | with_reducible refine Ext.tr ?_ xf | with_reducible refine Ext.tr ?_ xg | with_reducible refine Ext.tr ?_ hx | with_reducible refine Ext.tr ?_ hext | with_reducible assumption))).mono ?_
                rintro e v2 ⟨u2, rfl, x2, hB⟩
                obtain ⟨p2, q2, rfl⟩ := hB.form
                have X2 : Ext wa v2 := (by repeat (first | with_reducible exact Ext.refl _ | with_reducible apply Ext.drew | with_reducible apply Ext.drewN | with_reducible apply Ext.alloc | ((with_reducible refine Ext.setCell ?_ ?_ _); rotate_left; focus (first | (simp; done) | (simp; omega) | omega)) | with_reducible refine Ext.tr ?_ x1 | with_reducible refine Ext.tr ?_ x2 | with_reducible refine Ext.tr ?_ x3 | with_reducible refine Ext.tr ?_ x4 | with_reducible refine Ext.tr ?_ x5 | with_reducible refine Ext.tr ?_ x6 | with_reducible refine Ext.tr ?_ x7 | with_reducible refine Ext.tr ?_ x9 | with_reducible refine Ext.tr ?_ xa | with_reducible refine Ext.tr ?_ xb | with_reducible refine Ext.tr ?_ xc | with_reducible refine Ext.tr ?_ xd | with_reducible refine Ext.tr ?_ xe | with_reducible refine Ext.tr ?_ xf | with_reducible refine Ext.tr ?_ xg | with_reducible refine Ext.tr ?_ hx | with_reducible refine Ext.tr ?_ hext | with_reducible assumption))
                have X12 : Ext v1 v2 := (by repeat (first | with_reducible exact Ext.refl _ | with_reducible apply Ext.drew | with_reducible apply Ext.drewN | with_reducible apply Ext.alloc | ((with_reducible refine Ext.setCell ?_ ?_ _); rotate_left; focus (first | (simp; done) | (simp; omega) | omega)) | with_reducible refine Ext.tr ?_ x1 | with_reducible refine Ext.tr ?_ x2 | with_reducible refine Ext.tr ?_ x3 | with_reducible refine Ext.tr ?_ x4 | with_reducible refine Ext.tr ?_ x5 | with_reducible refine Ext.tr ?_ x6 | with_reducible refine Ext.tr ?_ x7 | with_reducible refine Ext.tr ?_ x9 | with_reducible refine Ext.tr ?_ xa | with_reducible refine Ext.tr ?_ xb | with_reducible refine Ext.tr ?_ xc | with_reducible refine Ext.tr ?_ xd | with_reducible refine Ext.tr ?_ xe | with_reducible refine Ext.tr ?_ xf | with_reducible refine Ext.tr ?_ xg | with_reducible refine Ext.tr ?_ hx | with_reducible refine Ext.tr ?_ hext | with_reducible assumption))
                have HAP := Lib.hid (fun y (e1 : Ext v1 y) (e2 : Ext v2 y) => lays_append (HA.out.ext e1) (hB.ext e2) (Nat.le_trans Z1.out (by first | exact Nat.le_refl _ | (simp; done) | (simp; omega))) (fun q hq => Nat.lt_of_lt_of_le (acc_lt HA.out q hq) (by first | exact Nat.le_refl _ | (simp; done) | (simp; omega))) (by omega) (Nat.le_trans Z1.out e1.size))
                clear hB CB
                go_wp2_with fail
                refine hK.out _ _ ?_ (fun hHeld => ?_)
                · (try dsimp only)
                  exact KP.out _ (by repeat (first | with_reducible exact Ext.refl _ | with_reducible apply Ext.drew | with_reducible apply Ext.drewN | with_reducible apply Ext.alloc | ((with_reducible refine Ext.setCell ?_ ?_ _); rotate_left; focus (first | (simp; done) | (simp; omega) | omega)) | with_reducible refine Ext.tr ?_ x1 | with_reducible refine Ext.tr ?_ x2 | with_reducible refine Ext.tr ?_ x3 | with_reducible refine Ext.tr ?_ x4 | with_reducible refine Ext.tr ?_ x5 | with_reducible refine Ext.tr ?_ x6 | with_reducible refine Ext.tr ?_ x7 | with_reducible refine Ext.tr ?_ x9 | with_reducible refine Ext.tr ?_ xa | with_reducible refine Ext.tr ?_ xb | with_reducible refine Ext.tr ?_ xc | with_reducible refine Ext.tr ?_ xd | with_reducible refine Ext.tr ?_ xe | with_reducible refine Ext.tr ?_ xf | with_reducible refine Ext.tr ?_ xg | with_reducible refine Ext.tr ?_ hx | with_reducible refine Ext.tr ?_ hext | with_reducible assumption))
                clear hK K
                (try simp only [List.getElem_toArray, List.getElem_cons_succ, List.getElem_cons_zero, Act.put, List.setIfInBounds_toArray, List.set_cons_zero, List.set_cons_succ])
                refine wpAnyH_ready (rs := [8, 10]) (by kernel_rfl) (by simp) ?_
                refine AllReadyH.cons rfl (fun K hK => ?_) (AllReadyH.cons rfl (fun K hK => ?_) AllReadyH.nil)
                · obtain ⟨ra, rc, w5, hr, hg, hlo, hL⟩ := HAP.out v2 X12 (Ext.refl _)
                  refine want_pos (by kernel_rfl) ?_
                  refine wp_append_run (.tmp 57) (.tmp 60) 25 rfl rfl rfl hr ?_
                  have x5 : Ext wa w5 := Ext.grown (show Ext wa v2 from X2) hg (fun k e => Nat.le_trans (by first | exact Nat.le_refl _ | (simp; done)) (hlo k e).1)
                  have HL := Lib.hid hL
                  clear hr hg hlo hL HAP
                  refine hK.out _ _ ?_ (fun hHeld => ?_)
                  · (try dsimp only)
                    exact KP.out _ x5
                  clear hK K
                  (try simp only [List.getElem_toArray, List.getElem_cons_succ, List.getElem_cons_zero, Act.put, List.setIfInBounds_toArray, List.set_cons_zero, List.set_cons_succ])
                  refine wpAnyH_take (i := 9) (v := .agg #[.slice a1 inp.length cc1, .slice ra (A ++ B).length rc, .int .i64 2]) rfl (by kernel_rfl) (by kernel_rfl) (by kernel_rfl) (fun _ _ _ h => h) (Or.inl ⟨by kernel_rfl, fun w _ => run_built_op 27 #[(0, .tmp 54), (1, .tmp 61), (2, .const (.int .i64 2))] rfl (by rfl) (def_built ..)⟩) (by assumption) ?_
                  (try simp only [List.getElem_toArray, List.getElem_cons_succ, List.getElem_cons_zero, Act.put, List.setIfInBounds_toArray, List.set_cons_zero, List.set_cons_succ])
                  refine wpAnyH_ready (rs := [10]) (by kernel_rfl) (by simp) ?_
                  refine AllReadyH.cons rfl (fun K hK => ?_) AllReadyH.nil
                  refine want_pos (by kernel_rfl) ?_
                  refine wp_alloc_at 27 rfl (AL.out _) ?_
                  have BD : Blk (w5.alloc (.cells #[.slice none 0 0, .slice none 0 0, .int .i64 0] 27)) w5.heap.size 27 #[.slice none 0 0, .slice none 0 0, .int .i64 0] := Blk.new _ _ _
                  refine hK.out _ _ ?_ (fun hHeld => ?_)
                  · (try dsimp only)
                    exact KP.out _ (by repeat (first | with_reducible exact Ext.refl _ | with_reducible apply Ext.drew | with_reducible apply Ext.drewN | with_reducible apply Ext.alloc | ((with_reducible refine Ext.setCell ?_ ?_ _); rotate_left; focus (first | (simp; done) | (simp; omega) | omega)) | with_reducible refine Ext.tr ?_ x1 | with_reducible refine Ext.tr ?_ x2 | with_reducible refine Ext.tr ?_ x3 | with_reducible refine Ext.tr ?_ x4 | with_reducible refine Ext.tr ?_ x5 | with_reducible refine Ext.tr ?_ x6 | with_reducible refine Ext.tr ?_ x7 | with_reducible refine Ext.tr ?_ x9 | with_reducible refine Ext.tr ?_ xa | with_reducible refine Ext.tr ?_ xb | with_reducible refine Ext.tr ?_ xc | with_reducible refine Ext.tr ?_ xd | with_reducible refine Ext.tr ?_ xe | with_reducible refine Ext.tr ?_ xf | with_reducible refine Ext.tr ?_ xg | with_reducible refine Ext.tr ?_ hx | with_reducible refine Ext.tr ?_ hext | with_reducible assumption))
                  clear hK K
                  (try simp only [List.getElem_toArray, List.getElem_cons_succ, List.getElem_cons_zero, Act.put])
                  refine wpAnyH_ready (rs := [11]) (by kernel_rfl) (by simp) ?_
                  refine AllReadyH.cons rfl (fun K hK => ?_) AllReadyH.nil
                  have xR := fun cs => Ext.setRow (g := w5.heap.size) (x5.alloc (.cells #[.slice none 0 0, .slice none 0 0, .int .i64 0] 27)) (x5.size) cs
                  refine want_pos (by kernel_rfl) ?_
                  refine wp_store_row _ _ _ rfl _ _ rfl rfl _ _ BD (by kernel_rfl) rfl (by simp [Value.oneCell']) ?_
                  refine hK.out _ _ ?_ (fun hHeld => ?_)
                  · (try dsimp only)
                    exact KP.out _ (xR _)
                  clear hK K
                  (try simp only [List.getElem_toArray, List.getElem_cons_succ, List.getElem_cons_zero, Act.put])
                  refine wpAnyH_done (by kernel_rfl) ?_ _
                  go_wp2_with fail
                  go_meet
                  exact ⟨w5.heap.size, ra, rc, rfl, x5.size, Blk.row BD, (HL.out.ext ((Ext.refl w5).alloc (.cells #[.slice none 0 0, .slice none 0 0, .int .i64 0] 27))).set3 BD (by decide) (fun b hb => by have := hb.2; rw [World.size_alloc]; omega), xR _⟩
                · refine want_pos (by kernel_rfl) ?_
                  refine wp_alloc_at 27 rfl (AL.out _) ?_
                  have BD : Blk (v2.alloc (.cells #[.slice none 0 0, .slice none 0 0, .int .i64 0] 27)) v2.heap.size 27 #[.slice none 0 0, .slice none 0 0, .int .i64 0] := Blk.new _ _ _
                  refine hK.out _ _ ?_ (fun hHeld => ?_)
                  · (try dsimp only)
                    exact KP.out _ (by repeat (first | with_reducible exact Ext.refl _ | with_reducible apply Ext.drew | with_reducible apply Ext.drewN | with_reducible apply Ext.alloc | ((with_reducible refine Ext.setCell ?_ ?_ _); rotate_left; focus (first | (simp; done) | (simp; omega) | omega)) | with_reducible refine Ext.tr ?_ x1 | with_reducible refine Ext.tr ?_ x2 | with_reducible refine Ext.tr ?_ x3 | with_reducible refine Ext.tr ?_ x4 | with_reducible refine Ext.tr ?_ x5 | with_reducible refine Ext.tr ?_ x6 | with_reducible refine Ext.tr ?_ x7 | with_reducible refine Ext.tr ?_ x9 | with_reducible refine Ext.tr ?_ xa | with_reducible refine Ext.tr ?_ xb | with_reducible refine Ext.tr ?_ xc | with_reducible refine Ext.tr ?_ xd | with_reducible refine Ext.tr ?_ xe | with_reducible refine Ext.tr ?_ xf | with_reducible refine Ext.tr ?_ xg | with_reducible refine Ext.tr ?_ hx | with_reducible refine Ext.tr ?_ hext | with_reducible assumption))
                  clear hK K
                  (try simp only [List.getElem_toArray, List.getElem_cons_succ, List.getElem_cons_zero, Act.put])
                  refine wpAnyH_ready (rs := [8]) (by kernel_rfl) (by simp) ?_
                  refine AllReadyH.cons rfl (fun K hK => ?_) AllReadyH.nil
                  obtain ⟨ra, rc, w5, hr, hg, hlo, hL⟩ := HAP.out (v2.alloc (.cells #[.slice none 0 0, .slice none 0 0, .int .i64 0] 27)) (X12.alloc _) ((Ext.refl _).alloc _)
                  refine want_pos (by kernel_rfl) ?_
                  refine wp_append_run (.tmp 57) (.tmp 60) 25 rfl rfl rfl hr ?_
                  have x5 : Ext wa w5 := Ext.grown (show Ext wa (v2.alloc (.cells #[.slice none 0 0, .slice none 0 0, .int .i64 0] 27)) from (X2.alloc _)) hg (fun k e => Nat.le_trans (by first | exact Nat.le_refl _ | (simp; done)) (hlo k e).1)
                  have BD5 := BD.lgrown hg hlo (by decide)
                  have HL := Lib.hid hL
                  clear hr hg hlo hL HAP
                  refine hK.out _ _ ?_ (fun hHeld => ?_)
                  · (try dsimp only)
                    exact KP.out _ x5
                  clear hK K
                  (try simp only [List.getElem_toArray, List.getElem_cons_succ, List.getElem_cons_zero, Act.put, List.setIfInBounds_toArray, List.set_cons_zero, List.set_cons_succ])
                  refine wpAnyH_take (i := 9) (v := .agg #[.slice a1 inp.length cc1, .slice ra (A ++ B).length rc, .int .i64 2]) rfl (by kernel_rfl) (by kernel_rfl) (by kernel_rfl) (fun _ _ _ h => h) (Or.inl ⟨by kernel_rfl, fun w _ => run_built_op 27 #[(0, .tmp 54), (1, .tmp 61), (2, .const (.int .i64 2))] rfl (by rfl) (def_built ..)⟩) (by assumption) ?_
                  (try simp only [List.getElem_toArray, List.getElem_cons_succ, List.getElem_cons_zero, Act.put, List.setIfInBounds_toArray, List.set_cons_zero, List.set_cons_succ])
                  refine wpAnyH_ready (rs := [11]) (by kernel_rfl) (by simp) ?_
                  refine AllReadyH.cons rfl (fun K hK => ?_) AllReadyH.nil
                  have xR := fun cs => Ext.setRow (g := v2.heap.size) x5 (X2.size) cs
                  refine want_pos (by kernel_rfl) ?_
                  refine wp_store_row _ _ _ rfl _ _ rfl rfl _ _ BD5 (by kernel_rfl) rfl (by simp [Value.oneCell']) ?_
                  refine hK.out _ _ ?_ (fun hHeld => ?_)
                  · (try dsimp only)
                    exact KP.out _ (xR _)
                  clear hK K
                  (try simp only [List.getElem_toArray, List.getElem_cons_succ, List.getElem_cons_zero, Act.put])
                  refine wpAnyH_done (by kernel_rfl) ?_ _
                  go_wp2_with fail
                  go_meet
                  exact ⟨v2.heap.size, ra, rc, rfl, X2.size, Blk.row BD5, HL.out.set3 BD5 (by decide) (fun b hb => hb.2), xR _⟩
              · refine want_pos (by kernel_rfl) ?_
                refine wp_alloc_at 27 rfl (AL.out _) ?_
                have BD : Blk (v1.alloc (.cells #[.slice none 0 0, .slice none 0 0, .int .i64 0] 27)) v1.heap.size 27 #[.slice none 0 0, .slice none 0 0, .int .i64 0] := Blk.new _ _ _
                refine hK.out _ _ ?_ (fun hHeld => ?_)
                · (try dsimp only)
                  exact KP.out _ (by repeat (first | with_reducible exact Ext.refl _ | with_reducible apply Ext.drew | with_reducible apply Ext.drewN | with_reducible apply Ext.alloc | ((with_reducible refine Ext.setCell ?_ ?_ _); rotate_left; focus (first | (simp; done) | (simp; omega) | omega)) | with_reducible refine Ext.tr ?_ x1 | with_reducible refine Ext.tr ?_ x2 | with_reducible refine Ext.tr ?_ x3 | with_reducible refine Ext.tr ?_ x4 | with_reducible refine Ext.tr ?_ x5 | with_reducible refine Ext.tr ?_ x6 | with_reducible refine Ext.tr ?_ x7 | with_reducible refine Ext.tr ?_ x9 | with_reducible refine Ext.tr ?_ xa | with_reducible refine Ext.tr ?_ xb | with_reducible refine Ext.tr ?_ xc | with_reducible refine Ext.tr ?_ xd | with_reducible refine Ext.tr ?_ xe | with_reducible refine Ext.tr ?_ xf | with_reducible refine Ext.tr ?_ xg | with_reducible refine Ext.tr ?_ hx | with_reducible refine Ext.tr ?_ hext | with_reducible assumption))
                clear hK K
                (try simp only [List.getElem_toArray, List.getElem_cons_succ, List.getElem_cons_zero, Act.put])
                refine wpAnyH_ready (rs := [7]) (by kernel_rfl) (by simp) ?_
                refine AllReadyH.cons rfl (fun K hK => ?_) AllReadyH.nil
                go_simp
                go_at_call 18
                refine (CB.out _ (by repeat (first | with_reducible exact Ext.refl _ | with_reducible apply Ext.drew | with_reducible apply Ext.drewN | with_reducible apply Ext.alloc | ((with_reducible refine Ext.setCell ?_ ?_ _); rotate_left; focus (first | (simp; done) | (simp; omega) | omega)) | with_reducible refine Ext.tr ?_ x1 | with_reducible refine Ext.tr ?_ x2 | with_reducible refine Ext.tr ?_ x3 | with_reducible refine Ext.tr ?_ x4 | with_reducible refine Ext.tr ?_ x5 | with_reducible refine Ext.tr ?_ x6 | with_reducible refine Ext.tr ?_ x7 | with_reducible refine Ext.tr ?_ x9 | with_reducible refine Ext.tr ?_ xa | with_reducible refine Ext.tr ?_ xb | with_reducible refine Ext.tr ?_ xc | with_reducible refine Ext.tr ?_ xd | with_reducible refine Ext.tr ?_ xe | with_reducible refine Ext.tr ?_ xf | with_reducible refine Ext.tr ?_ xg | with_reducible refine Ext.tr ?_ hx | with_reducible refine Ext.tr ?_ hext | with_reducible assumption))).mono ?_
                rintro e v2 ⟨u2, rfl, x2, hB⟩
                obtain ⟨p2, q2, rfl⟩ := hB.form
                have X2 : Ext wa v2 := (by repeat (first | with_reducible exact Ext.refl _ | with_reducible apply Ext.drew | with_reducible apply Ext.drewN | with_reducible apply Ext.alloc | ((with_reducible refine Ext.setCell ?_ ?_ _); rotate_left; focus (first | (simp; done) | (simp; omega) | omega)) | with_reducible refine Ext.tr ?_ x1 | with_reducible refine Ext.tr ?_ x2 | with_reducible refine Ext.tr ?_ x3 | with_reducible refine Ext.tr ?_ x4 | with_reducible refine Ext.tr ?_ x5 | with_reducible refine Ext.tr ?_ x6 | with_reducible refine Ext.tr ?_ x7 | with_reducible refine Ext.tr ?_ x9 | with_reducible refine Ext.tr ?_ xa | with_reducible refine Ext.tr ?_ xb | with_reducible refine Ext.tr ?_ xc | with_reducible refine Ext.tr ?_ xd | with_reducible refine Ext.tr ?_ xe | with_reducible refine Ext.tr ?_ xf | with_reducible refine Ext.tr ?_ xg | with_reducible refine Ext.tr ?_ hx | with_reducible refine Ext.tr ?_ hext | with_reducible assumption))
                have X12 : Ext v1 v2 := (by repeat (first | with_reducible exact Ext.refl _ | with_reducible apply Ext.drew | with_reducible apply Ext.drewN | with_reducible apply Ext.alloc | ((with_reducible refine Ext.setCell ?_ ?_ _); rotate_left; focus (first | (simp; done) | (simp; omega) | omega)) | with_reducible refine Ext.tr ?_ x1 | with_reducible refine Ext.tr ?_ x2 | with_reducible refine Ext.tr ?_ x3 | with_reducible refine Ext.tr ?_ x4 | with_reducible refine Ext.tr ?_ x5 | with_reducible refine Ext.tr ?_ x6 | with_reducible refine Ext.tr ?_ x7 | with_reducible refine Ext.tr ?_ x9 | with_reducible refine Ext.tr ?_ xa | with_reducible refine Ext.tr ?_ xb | with_reducible refine Ext.tr ?_ xc | with_reducible refine Ext.tr ?_ xd | with_reducible refine Ext.tr ?_ xe | with_reducible refine Ext.tr ?_ xf | with_reducible refine Ext.tr ?_ xg | with_reducible refine Ext.tr ?_ hx | with_reducible refine Ext.tr ?_ hext | with_reducible assumption))
                have HAP := Lib.hid (fun y (e1 : Ext v1 y) (e2 : Ext v2 y) => lays_append (HA.out.ext e1) (hB.ext e2) (Nat.le_trans Z1.out (by first | exact Nat.le_refl _ | (simp; done) | (simp; omega))) (fun q hq => Nat.lt_of_lt_of_le (acc_lt HA.out q hq) (by first | exact Nat.le_refl _ | (simp; done) | (simp; omega))) (by omega) (Nat.le_trans Z1.out e1.size))
                have BD2 := BD.ext x2
                clear BD
                clear hB CB
                go_wp2_with fail
                refine hK.out _ _ ?_ (fun hHeld => ?_)
                · (try dsimp only)
                  exact KP.out _ (by repeat (first | with_reducible exact Ext.refl _ | with_reducible apply Ext.drew | with_reducible apply Ext.drewN | with_reducible apply Ext.alloc | ((with_reducible refine Ext.setCell ?_ ?_ _); rotate_left; focus (first | (simp; done) | (simp; omega) | omega)) | with_reducible refine Ext.tr ?_ x1 | with_reducible refine Ext.tr ?_ x2 | with_reducible refine Ext.tr ?_ x3 | with_reducible refine Ext.tr ?_ x4 | with_reducible refine Ext.tr ?_ x5 | with_reducible refine Ext.tr ?_ x6 | with_reducible refine Ext.tr ?_ x7 | with_reducible refine Ext.tr ?_ x9 | with_reducible refine Ext.tr ?_ xa | with_reducible refine Ext.tr ?_ xb | with_reducible refine Ext.tr ?_ xc | with_reducible refine Ext.tr ?_ xd | with_reducible refine Ext.tr ?_ xe | with_reducible refine Ext.tr ?_ xf | with_reducible refine Ext.tr ?_ xg | with_reducible refine Ext.tr ?_ hx | with_reducible refine Ext.tr ?_ hext | with_reducible assumption))
                clear hK K
                (try simp only [List.getElem_toArray, List.getElem_cons_succ, List.getElem_cons_zero, Act.put, List.setIfInBounds_toArray, List.set_cons_zero, List.set_cons_succ])
                refine wpAnyH_ready (rs := [8]) (by kernel_rfl) (by simp) ?_
                refine AllReadyH.cons rfl (fun K hK => ?_) AllReadyH.nil
                obtain ⟨ra, rc, w5, hr, hg, hlo, hL⟩ := HAP.out v2 X12 (Ext.refl _)
                refine want_pos (by kernel_rfl) ?_
                refine wp_append_run (.tmp 57) (.tmp 60) 25 rfl rfl rfl hr ?_
                have x5 : Ext wa w5 := Ext.grown (show Ext wa v2 from X2) hg (fun k e => Nat.le_trans (by first | exact Nat.le_refl _ | (simp; done)) (hlo k e).1)
                have BD5 := BD2.lgrown hg hlo (by decide)
                have HL := Lib.hid hL
                clear hr hg hlo hL HAP
                refine hK.out _ _ ?_ (fun hHeld => ?_)
                · (try dsimp only)
                  exact KP.out _ x5
                clear hK K
                (try simp only [List.getElem_toArray, List.getElem_cons_succ, List.getElem_cons_zero, Act.put, List.setIfInBounds_toArray, List.set_cons_zero, List.set_cons_succ])
                refine wpAnyH_take (i := 9) (v := .agg #[.slice a1 inp.length cc1, .slice ra (A ++ B).length rc, .int .i64 2]) rfl (by kernel_rfl) (by kernel_rfl) (by kernel_rfl) (fun _ _ _ h => h) (Or.inl ⟨by kernel_rfl, fun w _ => run_built_op 27 #[(0, .tmp 54), (1, .tmp 61), (2, .const (.int .i64 2))] rfl (by rfl) (def_built ..)⟩) (by assumption) ?_
                (try simp only [List.getElem_toArray, List.getElem_cons_succ, List.getElem_cons_zero, Act.put, List.setIfInBounds_toArray, List.set_cons_zero, List.set_cons_succ])
                refine wpAnyH_ready (rs := [11]) (by kernel_rfl) (by simp) ?_
                refine AllReadyH.cons rfl (fun K hK => ?_) AllReadyH.nil
                have xR := fun cs => Ext.setRow (g := v1.heap.size) x5 (X1.size) cs
                refine want_pos (by kernel_rfl) ?_
                refine wp_store_row _ _ _ rfl _ _ rfl rfl _ _ BD5 (by kernel_rfl) rfl (by simp [Value.oneCell']) ?_
                refine hK.out _ _ ?_ (fun hHeld => ?_)
                · (try dsimp only)
                  exact KP.out _ (xR _)
                clear hK K
                (try simp only [List.getElem_toArray, List.getElem_cons_succ, List.getElem_cons_zero, Act.put])
                refine wpAnyH_done (by kernel_rfl) ?_ _
                go_wp2_with fail
                go_meet
                exact ⟨v1.heap.size, ra, rc, rfl, X1.size, Blk.row BD5, HL.out.set3 BD5 (by decide) (fun b hb => hb.2), xR _⟩
            · refine want_pos (by kernel_rfl) ?_
              refine wp_alloc_at 27 rfl (AL.out _) ?_
              have BD : Blk (wa.drew.alloc (.cells #[.slice none 0 0, .slice none 0 0, .int .i64 0] 27)) wa.heap.size 27 #[.slice none 0 0, .slice none 0 0, .int .i64 0] := Blk.new _ _ _
              refine hK.out _ _ ?_ (fun hHeld => ?_)
              · (try dsimp only)
                exact KP.out _ (by repeat (first | with_reducible exact Ext.refl _ | with_reducible apply Ext.drew | with_reducible apply Ext.drewN | with_reducible apply Ext.alloc | ((with_reducible refine Ext.setCell ?_ ?_ _); rotate_left; focus (first | (simp; done) | (simp; omega) | omega)) | with_reducible refine Ext.tr ?_ x1 | with_reducible refine Ext.tr ?_ x2 | with_reducible refine Ext.tr ?_ x3 | with_reducible refine Ext.tr ?_ x4 | with_reducible refine Ext.tr ?_ x5 | with_reducible refine Ext.tr ?_ x6 | with_reducible refine Ext.tr ?_ x7 | with_reducible refine Ext.tr ?_ x9 | with_reducible refine Ext.tr ?_ xa | with_reducible refine Ext.tr ?_ xb | with_reducible refine Ext.tr ?_ xc | with_reducible refine Ext.tr ?_ xd | with_reducible refine Ext.tr ?_ xe | with_reducible refine Ext.tr ?_ xf | with_reducible refine Ext.tr ?_ xg | with_reducible refine Ext.tr ?_ hx | with_reducible refine Ext.tr ?_ hext | with_reducible assumption))
              clear hK K
              (try simp only [List.getElem_toArray, List.getElem_cons_succ, List.getElem_cons_zero, Act.put])
              refine wpAnyH_ready (rs := [4]) (by kernel_rfl) (by simp) ?_
              refine AllReadyH.cons rfl (fun K hK => ?_) AllReadyH.nil
              go_simp
              go_at_call 18
              refine (CA.out _ (by repeat (first | with_reducible exact Ext.refl _ | with_reducible apply Ext.drew | with_reducible apply Ext.drewN | with_reducible apply Ext.alloc | ((with_reducible refine Ext.setCell ?_ ?_ _); rotate_left; focus (first | (simp; done) | (simp; omega) | omega)) | with_reducible refine Ext.tr ?_ x1 | with_reducible refine Ext.tr ?_ x2 | with_reducible refine Ext.tr ?_ x3 | with_reducible refine Ext.tr ?_ x4 | with_reducible refine Ext.tr ?_ x5 | with_reducible refine Ext.tr ?_ x6 | with_reducible refine Ext.tr ?_ x7 | with_reducible refine Ext.tr ?_ x9 | with_reducible refine Ext.tr ?_ xa | with_reducible refine Ext.tr ?_ xb | with_reducible refine Ext.tr ?_ xc | with_reducible refine Ext.tr ?_ xd | with_reducible refine Ext.tr ?_ xe | with_reducible refine Ext.tr ?_ xf | with_reducible refine Ext.tr ?_ xg | with_reducible refine Ext.tr ?_ hx | with_reducible refine Ext.tr ?_ hext | with_reducible assumption))).mono ?_
              rintro e v1 ⟨u1, rfl, x1, hA⟩
              obtain ⟨p1, q1, rfl⟩ := hA.form
              have HA := Lib.hid hA
              have X1 : Ext wa v1 := (by repeat (first | with_reducible exact Ext.refl _ | with_reducible apply Ext.drew | with_reducible apply Ext.drewN | with_reducible apply Ext.alloc | ((with_reducible refine Ext.setCell ?_ ?_ _); rotate_left; focus (first | (simp; done) | (simp; omega) | omega)) | with_reducible refine Ext.tr ?_ x1 | with_reducible refine Ext.tr ?_ x2 | with_reducible refine Ext.tr ?_ x3 | with_reducible refine Ext.tr ?_ x4 | with_reducible refine Ext.tr ?_ x5 | with_reducible refine Ext.tr ?_ x6 | with_reducible refine Ext.tr ?_ x7 | with_reducible refine Ext.tr ?_ x9 | with_reducible refine Ext.tr ?_ xa | with_reducible refine Ext.tr ?_ xb | with_reducible refine Ext.tr ?_ xc | with_reducible refine Ext.tr ?_ xd | with_reducible refine Ext.tr ?_ xe | with_reducible refine Ext.tr ?_ xf | with_reducible refine Ext.tr ?_ xg | with_reducible refine Ext.tr ?_ hx | with_reducible refine Ext.tr ?_ hext | with_reducible assumption))
              have Z1 := Lib.hid x1.size
              have BD1 := BD.ext x1
              clear BD
              clear hA CA
              go_wp2_with fail
              refine hK.out _ _ ?_ (fun hHeld => ?_)
              · (try dsimp only)
                exact KP.out _ (by repeat (first | with_reducible exact Ext.refl _ | with_reducible apply Ext.drew | with_reducible apply Ext.drewN | with_reducible apply Ext.alloc | ((with_reducible refine Ext.setCell ?_ ?_ _); rotate_left; focus (first | (simp; done) | (simp; omega) | omega)) | with_reducible refine Ext.tr ?_ x1 | with_reducible refine Ext.tr ?_ x2 | with_reducible refine Ext.tr ?_ x3 | with_reducible refine Ext.tr ?_ x4 | with_reducible refine Ext.tr ?_ x5 | with_reducible refine Ext.tr ?_ x6 | with_reducible refine Ext.tr ?_ x7 | with_reducible refine Ext.tr ?_ x9 | with_reducible refine Ext.tr ?_ xa | with_reducible refine Ext.tr ?_ xb | with_reducible refine Ext.tr ?_ xc | with_reducible refine Ext.tr ?_ xd | with_reducible refine Ext.tr ?_ xe | with_reducible refine Ext.tr ?_ xf | with_reducible refine Ext.tr ?_ xg | with_reducible refine Ext.tr ?_ hx | with_reducible refine Ext.tr ?_ hext | with_reducible assumption))
              clear hK K
              (try simp only [List.getElem_toArray, List.getElem_cons_succ, List.getElem_cons_zero, Act.put, List.setIfInBounds_toArray, List.set_cons_zero, List.set_cons_succ])
              refine wpAnyH_ready (rs := [7]) (by kernel_rfl) (by simp) ?_
              refine AllReadyH.cons rfl (fun K hK => ?_) AllReadyH.nil
              go_simp
              go_at_call 18
              refine (CB.out _ (by repeat (first | with_reducible exact Ext.refl _ | with_reducible apply Ext.drew | with_reducible apply Ext.drewN | with_reducible apply Ext.alloc | ((with_reducible refine Ext.setCell ?_ ?_ _); rotate_left; focus (first | (simp; done) | (simp; omega) | omega)) | with_reducible refine Ext.tr ?_ x1 | with_reducible refine Ext.tr ?_ x2 | with_reducible refine Ext.tr ?_ x3 | with_reducible refine Ext.tr ?_ x4 | with_reducible refine Ext.tr ?_ x5 | with_reducible refine Ext.tr ?_ x6 | with_reducible refine Ext.tr ?_ x7 | with_reducible refine Ext.tr ?_ x9 | with_reducible refine Ext.tr ?_ xa | with_reducible refine Ext.tr ?_ xb | with_reducible refine Ext.tr ?_ xc | with_reducible refine Ext.tr ?_ xd | with_reducible refine Ext.tr ?_ xe | with_reducible refine Ext.tr ?_ xf | with_reducible refine Ext.tr ?_ xg | with_reducible refine Ext.tr ?_ hx | with_reducible refine Ext.tr ?_ hext | with_reducible assumption))).mono ?_
              rintro e v2 ⟨u2, rfl, x2, hB⟩
              obtain ⟨p2, q2, rfl⟩ := hB.form
              have X2 : Ext wa v2 := (by repeat (first | with_reducible exact Ext.refl _ | with_reducible apply Ext.drew | with_reducible apply Ext.drewN | with_reducible apply Ext.alloc | ((with_reducible refine Ext.setCell ?_ ?_ _); rotate_left; focus (first | (simp; done) | (simp; omega) | omega)) | with_reducible refine Ext.tr ?_ x1 | with_reducible refine Ext.tr ?_ x2 | with_reducible refine Ext.tr ?_ x3 | with_reducible refine Ext.tr ?_ x4 | with_reducible refine Ext.tr ?_ x5 | with_reducible refine Ext.tr ?_ x6 | with_reducible refine Ext.tr ?_ x7 | with_reducible refine Ext.tr ?_ x9 | with_reducible refine Ext.tr ?_ xa | with_reducible refine Ext.tr ?_ xb | with_reducible refine Ext.tr ?_ xc | with_reducible refine Ext.tr ?_ xd | with_reducible refine Ext.tr ?_ xe | with_reducible refine Ext.tr ?_ xf | with_reducible refine Ext.tr ?_ xg | with_reducible refine Ext.tr ?_ hx | with_reducible refine Ext.tr ?_ hext | with_reducible assumption))
              have X12 : Ext v1 v2 := (by repeat (first | with_reducible exact Ext.refl _ | with_reducible apply Ext.drew | with_reducible apply Ext.drewN | with_reducible apply Ext.alloc | ((with_reducible refine Ext.setCell ?_ ?_ _); rotate_left; focus (first | (simp; done) | (simp; omega) | omega)) | with_reducible refine Ext.tr ?_ x1 | with_reducible refine Ext.tr ?_ x2 | with_reducible refine Ext.tr ?_ x3 | with_reducible refine Ext.tr ?_ x4 | with_reducible refine Ext.tr ?_ x5 | with_reducible refine Ext.tr ?_ x6 | with_reducible refine Ext.tr ?_ x7 | with_reducible refine Ext.tr ?_ x9 | with_reducible refine Ext.tr ?_ xa | with_reducible refine Ext.tr ?_ xb | with_reducible refine Ext.tr ?_ xc | with_reducible refine Ext.tr ?_ xd | with_reducible refine Ext.tr ?_ xe | with_reducible refine Ext.tr ?_ xf | with_reducible refine Ext.tr ?_ xg | with_reducible refine Ext.tr ?_ hx | with_reducible refine Ext.tr ?_ hext | with_reducible assumption))
              have HAP := Lib.hid (fun y (e1 : Ext v1 y) (e2 : Ext v2 y) => lays_append (HA.out.ext e1) (hB.ext e2) (Nat.le_trans Z1.out (by first | exact Nat.le_refl _ | (simp; done) | (simp; omega))) (fun q hq => Nat.lt_of_lt_of_le (acc_lt HA.out q hq) (by first | exact Nat.le_refl _ | (simp; done) | (simp; omega))) (by omega) (Nat.le_trans Z1.out e1.size))
              have BD2 := BD1.ext x2
              clear BD1
              clear hB CB
              go_wp2_with fail
              refine hK.out _ _ ?_ (fun hHeld => ?_)
              · (try dsimp only)
                exact KP.out _ (by repeat (first | with_reducible exact Ext.refl _ | with_reducible apply Ext.drew | with_reducible apply Ext.drewN | with_reducible apply Ext.alloc | ((with_reducible refine Ext.setCell ?_ ?_ _); rotate_left; focus (first | (simp; done) | (simp; omega) | omega)) | with_reducible refine Ext.tr ?_ x1 | with_reducible refine Ext.tr ?_ x2 | with_reducible refine Ext.tr ?_ x3 | with_reducible refine Ext.tr ?_ x4 | with_reducible refine Ext.tr ?_ x5 | with_reducible refine Ext.tr ?_ x6 | with_reducible refine Ext.tr ?_ x7 | with_reducible refine Ext.tr ?_ x9 | with_reducible refine Ext.tr ?_ xa | with_reducible refine Ext.tr ?_ xb | with_reducible refine Ext.tr ?_ xc | with_reducible refine Ext.tr ?_ xd | with_reducible refine Ext.tr ?_ xe | with_reducible refine Ext.tr ?_ xf | with_reducible refine Ext.tr ?_ xg | with_reducible refine Ext.tr ?_ hx | with_reducible refine Ext.tr ?_ hext | with_reducible assumption))
              clear hK K
              (try simp only [List.getElem_toArray, List.getElem_cons_succ, List.getElem_cons_zero, Act.put, List.setIfInBounds_toArray, List.set_cons_zero, List.set_cons_succ])
              refine wpAnyH_ready (rs := [8]) (by kernel_rfl) (by simp) ?_
              refine AllReadyH.cons rfl (fun K hK => ?_) AllReadyH.nil
              obtain ⟨ra, rc, w5, hr, hg, hlo, hL⟩ := HAP.out v2 X12 (Ext.refl _)
              refine want_pos (by kernel_rfl) ?_
              refine wp_append_run (.tmp 57) (.tmp 60) 25 rfl rfl rfl hr ?_
              have x5 : Ext wa w5 := Ext.grown (show Ext wa v2 from X2) hg (fun k e => Nat.le_trans (by first | exact Nat.le_refl _ | (simp; done)) (hlo k e).1)
              have BD5 := BD2.lgrown hg hlo (by decide)
              have HL := Lib.hid hL
              clear hr hg hlo hL HAP
              refine hK.out _ _ ?_ (fun hHeld => ?_)
              · (try dsimp only)
                exact KP.out _ x5
              clear hK K
              (try simp only [List.getElem_toArray, List.getElem_cons_succ, List.getElem_cons_zero, Act.put, List.setIfInBounds_toArray, List.set_cons_zero, List.set_cons_succ])
              refine wpAnyH_take (i := 9) (v := .agg #[.slice a1 inp.length cc1, .slice ra (A ++ B).length rc, .int .i64 2]) rfl (by kernel_rfl) (by kernel_rfl) (by kernel_rfl) (fun _ _ _ h => h) (Or.inl ⟨by kernel_rfl, fun w _ => run_built_op 27 #[(0, .tmp 54), (1, .tmp 61), (2, .const (.int .i64 2))] rfl (by rfl) (def_built ..)⟩) (by assumption) ?_
              (try simp only [List.getElem_toArray, List.getElem_cons_succ, List.getElem_cons_zero, Act.put, List.setIfInBounds_toArray, List.set_cons_zero, List.set_cons_succ])
              refine wpAnyH_ready (rs := [11]) (by kernel_rfl) (by simp) ?_
              refine AllReadyH.cons rfl (fun K hK => ?_) AllReadyH.nil
              have xR := fun cs => Ext.setRow (g := wa.heap.size) x5 (Nat.le_refl _) cs
              refine want_pos (by kernel_rfl) ?_
              refine wp_store_row _ _ _ rfl _ _ rfl rfl _ _ BD5 (by kernel_rfl) rfl (by simp [Value.oneCell']) ?_
              refine hK.out _ _ ?_ (fun hHeld => ?_)
              · (try dsimp only)
                exact KP.out _ (xR _)
              clear hK K
              (try simp only [List.getElem_toArray, List.getElem_cons_succ, List.getElem_cons_zero, Act.put])
              refine wpAnyH_done (by kernel_rfl) ?_ _
              go_wp2_with fail
              go_meet
              exact ⟨wa.heap.size, ra, rc, rfl, Nat.le_refl _, Blk.row BD5, HL.out.set3 BD5 (by decide) (fun b hb => hb.2), xR _⟩
          case rest =>
            obtain ⟨g1, ra, rc, rfl, zg1, bd1, lay1, xc⟩ := hcut
            have DB : DefAt (fun b => b < wc.heap.size) (n - 1 + 1) wc (.agg #[.slice a1 inp.length cc1, .slice ra (A ++ B).length rc, .int .i64 2]) ⟨inp, A ++ B, 2⟩ :=
              ⟨⟨a1, cc1, ra, rc, rfl, (HROW.out.ext XA.out).ext xc, lay1⟩, fun b hb => hb⟩
            have DA1 : DefAt (fun b => b < w.heap.size) n wc (.agg #[.slice a1 inp.length cc1, .slice a2 A.length cc2, .int .i64 2]) ⟨inp, A, 2⟩ :=
              ⟨⟨a1, cc1, a2, cc2, rfl, (HROW.out.ext XA.out).ext xc, (HLA.out.ext XA.out).ext xc⟩, fun b hb => by have h1 := XWO.out.size; have h2 := XA.out.size; have h3 := xc.size; have hb : b < w.heap.size := hb; omega⟩
            obtain ⟨mab, hmab⟩ : ∃ m, (A ++ B).length = m := ⟨_, rfl⟩
            rw [hmab] at DB bd1
            have HMAB := Lib.hid hmab
            have HDB := Lib.hid DB
            have HDA := Lib.hid DA1
            obtain ⟨k0, k1, k2, zk⟩ := bd1.three'
            obtain ⟨j0, j1, j2, zj⟩ := (HB.out.ext xc).three'
            have XC := Lib.hid xc
            have HBC := Lib.hid (HB.out.ext xc)
            have OU := Lib.hid (fun u (x : Ext wc u) => out_any (def_ext HDB.out x))
            have PU := Lib.hid (fun u (x : Ext wc u) => params_any (def_ext HDB.out x))
            have X0 := Ext.refl wc
            clear DB DA1 bd1 lay1 xc CA CB AL HB hmab
            cases hT : toldS ⟨inp, A ++ B, 2⟩ with
            | bad er => as_aux_lemma =>
              rw [hT] at OU PU
              have hne0 := told_ne hT
              have te : (er != 0) = true := by simpa using hne0
              clear hT hne0
              go_wp2_with fail
              refine (OU.out _ X0).mono ?_
              rintro e v1 ⟨rfl, x1⟩
              have X1 := X0.tr x1
              replace k0 := x1.cell k0
              replace k1 := x1.cell k1
              replace k2 := x1.cell k2
              replace zk := cell_lt k0
              simp only at zk
              clear OU x1 X0
              go_wp2_with fail
              refine (PU.out _ X1).mono ?_
              rintro e v2 ⟨rfl, x2⟩
              have X2 := X1.tr x2
              clear PU x2 X1
              go_wp2_with (go_at_call 11; refine (num27_any _ _).mono ?_; rintro e w' ⟨rfl, rfl⟩)
              exact ⟨⟨k + 1, by omega, by go_num, XWO.out.tr (XA.out.tr (XC.out.tr X2))⟩, by simp [intOf]; omega⟩
            | ok s all => as_aux_lemma =>
              rw [hT] at OU PU
              obtain ⟨hnd, t, a, hTA, ht1, hal, hrest⟩ := joins_told hT
              have OA := Lib.hid (fun u (x : Ext wc u) => out_any (def_ext HDA.out x))
              have PA := Lib.hid (fun u (x : Ext wc u) => params_any (def_ext HDA.out x))
              rw [hTA] at OA PA
              have HND := Lib.hid hnd
              have HREST := Lib.hid hrest
              have HNAM := Lib.hid (told_names hT)
              clear hT hTA hnd hrest
              go_wp2_with fail
              refine (OU.out _ X0).mono ?_
              rintro e v1 ⟨xa, xd, rfl, x1, o1⟩
              have X1 := X0.tr x1
              replace k0 := x1.cell k0
              replace k1 := x1.cell k1
              replace k2 := x1.cell k2
              replace j0 := x1.cell j0
              replace j1 := x1.cell j1
              replace j2 := x1.cell j2
              replace zk := cell_lt k0
              replace zj := cell_lt j0
              simp only at zk zj
              have O1 := Lib.hid (Row.of_owns o1).1
              clear OU x1 X0 o1
              go_wp2_with fail
              refine (PU.out _ X1).mono ?_
              rintro e v2 ⟨pa, pc, rfl, x2, p2⟩
              have X2 := X1.tr x2
              replace j0 := x2.cell j0
              replace j1 := x2.cell j1
              replace j2 := x2.cell j2
              replace zj := cell_lt j0
              simp only at zj
              have P2 := Lib.hid p2
              have Y2 := Lib.hid x2
              clear PU x2 X1 p2 k0 k1 k2 zk
              go_wp2_with (go_at_call 11; refine (num27_any _ _).mono ?_; rintro e w' ⟨rfl, rfl⟩)
              have BF := Blk.new v2 27 #[.slice a1 inp.length cc1, .slice a2 A.length cc2, .int .i64 2]
              obtain ⟨V, hV⟩ : ∃ V, V = v2.alloc (.cells #[.slice a1 inp.length cc1, .slice a2 A.length cc2, .int .i64 2] 27) := ⟨_, rfl⟩
              have xV : Ext v2 V := by rw [hV]; exact (Ext.refl v2).alloc _
              rw [← hV] at BF ⊢
              clear hV
              obtain ⟨k0, k1, k2, zk⟩ := BF.three'
              replace j0 := xV.cell j0
              replace j1 := xV.cell j1
              replace j2 := xV.cell j2
              replace zj := cell_lt j0
              simp only at zj
              have XV := X2.tr xV
              have YV := Lib.hid xV
              clear BF X2 xV
              refine (OA.out _ XV).mono ?_
              rintro e v3 ⟨xb, xe, rfl, x3, o3⟩
              have X3 := XV.tr x3
              replace k0 := x3.cell k0
              replace k1 := x3.cell k1
              replace k2 := x3.cell k2
              replace j0 := x3.cell j0
              replace j1 := x3.cell j1
              replace j2 := x3.cell j2
              replace zk := cell_lt k0
              replace zj := cell_lt j0
              simp only at zk zj
              have O3 := Lib.hid (Row.of_owns o3).1
              have Y3 := Lib.hid x3
              clear OA x3 XV o3
              go_wp2_with fail
              refine (PA.out _ X3).mono ?_
              rintro e v4 ⟨pb, pd, rfl, x4, p4⟩
              have X4 := X3.tr x4
              replace j0 := x4.cell j0
              replace j1 := x4.cell j1
              replace j2 := x4.cell j2
              replace zj := cell_lt j0
              simp only at zj
              have P4 := Lib.hid p4
              have Y4 := Lib.hid x4
              clear PA x4 X3 p4 k0 k1 k2 zk
              have ht0 : ¬ (t.length : Int) < 1 := by omega
              go_wp2_with (go_at_call 11; refine (num27_any _ _).mono ?_; rintro e w' ⟨rfl, rfl⟩)
              have hmx := P2.out.max
              have P24 := Lib.hid (((P2.out.ext YV.out).ext Y3.out).ext Y4.out)
              obtain ⟨vo, hvo⟩ : ∃ vo, vo = v4 := ⟨_, rfl⟩
              rw [← hvo] at X4 P4 Y4 P24 j0 j1 j2 zj ⊢
              have XO := Lib.hid X4
              clear hvo X4
              go_loopw [15] (fun i wx => ∃ m : Nat, m ≤ all.length ∧ i = .int .i64 m ∧ Ext vo wx) (fun i _ => all.length - (intOf i).toNat)
              case atStart => exact ⟨0, Nat.zero_le _, rfl, Ext.refl _⟩
              case round =>
                obtain ⟨m, hm, rfl, x5⟩ := hrel
                rcases Nat.lt_or_ge m all.length with hlt | hge
                · as_aux_lemma =>
                  have hmz : (m : Int) < (all.length : Int) := by omega
                  have HX5 := Lib.hid x5
                  go_wp2_with fail
                  obtain ⟨wo, hwo⟩ : ∃ wo, wo = wr := ⟨_, rfl⟩
                  rw [← hwo] at x5 ⊢
                  clear hwo
                  go_loopw [16] (fun i wx => ∃ q : Nat, q ≤ m ∧ i = .int .i64 q ∧ Ext vo wx) (fun i _ => m - (intOf i).toNat)
                  case atStart => exact ⟨0, Nat.zero_le _, rfl, x5⟩
                  case round =>
                    obtain ⟨q, hq, rfl, x6⟩ := hrel
                    rcases Nat.lt_or_ge q m with hlq | hgq
                    · as_aux_lemma =>
                      have hqz : (q : Int) < (m : Int) := by omega
                      have HX6 := Lib.hid x6
                      obtain ⟨g, c, sa, sc, e1, n1, -, -, -, -⟩ := (P24.out.ext x6).at hlt
                      obtain ⟨g', c', sb, sd, e2, n2, -, -, -, -⟩ := (P24.out.ext x6).at (show q < all.length by omega)
                      rw [e1] at e2
                      cases e2
                      cases e1
                      have hne := names_ne HND.out (show q < all.length by omega) hlt hlq
                      obtain ⟨NA, hNA⟩ : ∃ N, ba (all[m]).name = N := ⟨_, rfl⟩
                      obtain ⟨NB, hNB⟩ : ∃ N, ba (all[q]'(by omega)).name = N := ⟨_, rfl⟩
                      rw [hNA] at n1 hne
                      rw [hNB] at n2 hne
                      have ST : (NA.toList == NB.toList) = false := hne
                      have z1 := cell_lt n1
                      simp only at z1
                      have hqa : (q : Int) < (all.length : Int) := by omega
                      clear hNA hNB hne x5 x6
                      go_wp2_with fail
                      go_quiet (fail)
                      go_wp2_with fail
                      exact ⟨⟨q + 1, by omega, by go_num, HX6.out.tr (by repeat (first | with_reducible exact Ext.refl _ | with_reducible apply Ext.drew | with_reducible apply Ext.drewN | with_reducible apply Ext.alloc | ((with_reducible refine Ext.setCell ?_ ?_ _); rotate_left; focus (first | (simp; done) | (simp; omega) | omega)) | with_reducible refine Ext.tr ?_ x1 | with_reducible refine Ext.tr ?_ x2 | with_reducible refine Ext.tr ?_ x3 | with_reducible refine Ext.tr ?_ x4 | with_reducible refine Ext.tr ?_ x5 | with_reducible refine Ext.tr ?_ x6 | with_reducible refine Ext.tr ?_ x7 | with_reducible refine Ext.tr ?_ x9 | with_reducible refine Ext.tr ?_ xa | with_reducible refine Ext.tr ?_ xb | with_reducible refine Ext.tr ?_ xc | with_reducible refine Ext.tr ?_ xd | with_reducible refine Ext.tr ?_ xe | with_reducible refine Ext.tr ?_ xf | with_reducible refine Ext.tr ?_ xg | with_reducible refine Ext.tr ?_ hx | with_reducible refine Ext.tr ?_ hext | with_reducible assumption))⟩, by simp [intOf]; omega⟩
                    · obtain rfl : q = m := by omega
                      have hqz : ¬ (q : Int) < (q : Int) := by omega
                      go_wp2_with fail
                      exact ⟨⟨q + 1, by omega, by go_num, x6⟩, by simp [intOf]; omega⟩
                · as_aux_lemma =>
                  obtain rfl : m = all.length := by omega
                  have hmz : ¬ ((all.length : Nat) : Int) < (all.length : Int) := by omega
                  have x7 := x5
                  obtain ⟨vp, hvp⟩ : ∃ vp, vp = wr := ⟨_, rfl⟩
                  rw [← hvp] at x7 ⊢
                  clear hvp x5 hmz
                  replace j0 := x7.cell j0
                  replace j1 := x7.cell j1
                  replace j2 := x7.cell j2
                  replace zj := cell_lt j0
                  simp only at zj
                  have X7 := Lib.hid (XO.out.tr x7)
                  have Y7 := Lib.hid x7
                  clear x7
                  go_upto_region 26 with (fail)
                  go_cut [153] (fun s153 wx => Ext vp wx ∧ (s153 = .bool true ∨ (s153 = .bool false ∧ A ≠ [] ∧ t.length ≤ 3 ∧ NoEmb B)))
                  case first => as_aux_lemma =>
                    by_cases hA0 : A.length = 0
                    · have tA : ((A.length : Int) == 0) = true := by simp [hA0]
                      clear hA0
                      go_wp2_with fail
                      go_meet
                      exact ⟨(by repeat (first | with_reducible exact Ext.refl _ | with_reducible apply Ext.drew | with_reducible apply Ext.drewN | with_reducible apply Ext.alloc | ((with_reducible refine Ext.setCell ?_ ?_ _); rotate_left; focus (first | (simp; done) | (simp; omega) | omega)) | with_reducible refine Ext.tr ?_ x1 | with_reducible refine Ext.tr ?_ x2 | with_reducible refine Ext.tr ?_ x3 | with_reducible refine Ext.tr ?_ x4 | with_reducible refine Ext.tr ?_ x5 | with_reducible refine Ext.tr ?_ x6 | with_reducible refine Ext.tr ?_ x7 | with_reducible refine Ext.tr ?_ x9 | with_reducible refine Ext.tr ?_ xa | with_reducible refine Ext.tr ?_ xb | with_reducible refine Ext.tr ?_ xc | with_reducible refine Ext.tr ?_ xd | with_reducible refine Ext.tr ?_ xe | with_reducible refine Ext.tr ?_ xf | with_reducible refine Ext.tr ?_ xg | with_reducible refine Ext.tr ?_ hx | with_reducible refine Ext.tr ?_ hext | with_reducible assumption)), .inl rfl⟩
                    · have tA : ((A.length : Int) == 0) = false := by simpa using hA0
                      have hAn : Hid (A ≠ []) := Lib.hid (by rintro rfl; exact hA0 rfl)
                      clear hA0
                      by_cases ht3 : 3 < t.length
                      · have htz : (3 : Int) < (t.length : Int) := by omega
                        clear ht3
                        go_wp2_with fail
                        go_meet
                        exact ⟨(by repeat (first | with_reducible exact Ext.refl _ | with_reducible apply Ext.drew | with_reducible apply Ext.drewN | with_reducible apply Ext.alloc | ((with_reducible refine Ext.setCell ?_ ?_ _); rotate_left; focus (first | (simp; done) | (simp; omega) | omega)) | with_reducible refine Ext.tr ?_ x1 | with_reducible refine Ext.tr ?_ x2 | with_reducible refine Ext.tr ?_ x3 | with_reducible refine Ext.tr ?_ x4 | with_reducible refine Ext.tr ?_ x5 | with_reducible refine Ext.tr ?_ x6 | with_reducible refine Ext.tr ?_ x7 | with_reducible refine Ext.tr ?_ x9 | with_reducible refine Ext.tr ?_ xa | with_reducible refine Ext.tr ?_ xb | with_reducible refine Ext.tr ?_ xc | with_reducible refine Ext.tr ?_ xd | with_reducible refine Ext.tr ?_ xe | with_reducible refine Ext.tr ?_ xf | with_reducible refine Ext.tr ?_ xg | with_reducible refine Ext.tr ?_ hx | with_reducible refine Ext.tr ?_ hext | with_reducible assumption)), .inl rfl⟩
                      · have htz : ¬ (3 : Int) < (t.length : Int) := by omega
                        have HT3 := Lib.hid (show t.length ≤ 3 by omega)
                        clear ht3
                        rcases heads_l B with h0 | ⟨f, bd, ls, hly⟩
                        · have hne : Hid (NoEmb B) := Lib.hid (fun f bd ls e => by rw [h0] at e; cases e)
                          have hpos : ¬ (0 : Int) < (B.length : Int) := by rw [h0]; simp
                          have HH := Lib.hid h0
                          clear h0
                          go_wp2_with fail
                          go_meet
                          exact ⟨(by repeat (first | with_reducible exact Ext.refl _ | with_reducible apply Ext.drew | with_reducible apply Ext.drewN | with_reducible apply Ext.alloc | ((with_reducible refine Ext.setCell ?_ ?_ _); rotate_left; focus (first | (simp; done) | (simp; omega) | omega)) | with_reducible refine Ext.tr ?_ x1 | with_reducible refine Ext.tr ?_ x2 | with_reducible refine Ext.tr ?_ x3 | with_reducible refine Ext.tr ?_ x4 | with_reducible refine Ext.tr ?_ x5 | with_reducible refine Ext.tr ?_ x6 | with_reducible refine Ext.tr ?_ x7 | with_reducible refine Ext.tr ?_ x9 | with_reducible refine Ext.tr ?_ xa | with_reducible refine Ext.tr ?_ xb | with_reducible refine Ext.tr ?_ xc | with_reducible refine Ext.tr ?_ xd | with_reducible refine Ext.tr ?_ xe | with_reducible refine Ext.tr ?_ xf | with_reducible refine Ext.tr ?_ xg | with_reducible refine Ext.tr ?_ hx | with_reducible refine Ext.tr ?_ hext | with_reducible assumption)), .inr ⟨rfl, hAn.out, HT3.out, hne.out⟩⟩
                        · have hl1 := ((HLB.out.ext XA.out).ext XC.out).ext X7.out
                          obtain ⟨m', rfl⟩ : ∃ m', n = m' + 1 := by
                            cases n with
                            | zero => have := hl1.1; rw [hly] at this; cases this
                            | succ m' => exact ⟨m', rfl⟩
                          obtain ⟨_, _, e1, -, q1⟩ := hl1
                          cases e1
                          obtain ⟨b2, o2, rfl, -, r1⟩ := q1 (by rw [hly]; simp)
                          obtain ⟨bv, -, t1, -⟩ := r1 0 (by rw [hly]; simp)
                          have y0 := t1 0 (by omega)
                          have hk0 : (B[0]'(by rw [hly]; simp)).f = f := by simp only [hly]; rfl
                          obtain ⟨K, I, O, Z, T, P, C, H⟩ := f
                          have y1 : vp.cell? ⟨b2, o2, none⟩ = some (.int .i64 K) := by
                            rw [hk0] at y0; simpa [layA] using y0
                          have hpos : (0 : Int) < (B.length : Int) := by rw [hly]; simp
                          have hposn : 0 < B.length := by omega
                          have zb := cell_lt y1
                          simp only at zb
                          have HH := Lib.hid hly
                          clear y0 hly hk0 t1 r1 q1
                          by_cases h11 : K = 11
                          · have t11 : (K == 11) = true := by simp [h11]
                            clear h11
                            go_wp2_with fail
                            go_meet
                            exact ⟨(by repeat (first | with_reducible exact Ext.refl _ | with_reducible apply Ext.drew | with_reducible apply Ext.drewN | with_reducible apply Ext.alloc | ((with_reducible refine Ext.setCell ?_ ?_ _); rotate_left; focus (first | (simp; done) | (simp; omega) | omega)) | with_reducible refine Ext.tr ?_ x1 | with_reducible refine Ext.tr ?_ x2 | with_reducible refine Ext.tr ?_ x3 | with_reducible refine Ext.tr ?_ x4 | with_reducible refine Ext.tr ?_ x5 | with_reducible refine Ext.tr ?_ x6 | with_reducible refine Ext.tr ?_ x7 | with_reducible refine Ext.tr ?_ x9 | with_reducible refine Ext.tr ?_ xa | with_reducible refine Ext.tr ?_ xb | with_reducible refine Ext.tr ?_ xc | with_reducible refine Ext.tr ?_ xd | with_reducible refine Ext.tr ?_ xe | with_reducible refine Ext.tr ?_ xf | with_reducible refine Ext.tr ?_ xg | with_reducible refine Ext.tr ?_ hx | with_reducible refine Ext.tr ?_ hext | with_reducible assumption)), .inl rfl⟩
                          · have t11 : (K == 11) = false := by simpa using h11
                            have hne : Hid (NoEmb B) := Lib.hid (fun f bd ls e => by rw [HH.out] at e; cases e; exact h11)
                            clear h11
                            go_wp2_with fail
                            go_meet
                            exact ⟨(by repeat (first | with_reducible exact Ext.refl _ | with_reducible apply Ext.drew | with_reducible apply Ext.drewN | with_reducible apply Ext.alloc | ((with_reducible refine Ext.setCell ?_ ?_ _); rotate_left; focus (first | (simp; done) | (simp; omega) | omega)) | with_reducible refine Ext.tr ?_ x1 | with_reducible refine Ext.tr ?_ x2 | with_reducible refine Ext.tr ?_ x3 | with_reducible refine Ext.tr ?_ x4 | with_reducible refine Ext.tr ?_ x5 | with_reducible refine Ext.tr ?_ x6 | with_reducible refine Ext.tr ?_ x7 | with_reducible refine Ext.tr ?_ x9 | with_reducible refine Ext.tr ?_ xa | with_reducible refine Ext.tr ?_ xb | with_reducible refine Ext.tr ?_ xc | with_reducible refine Ext.tr ?_ xd | with_reducible refine Ext.tr ?_ xe | with_reducible refine Ext.tr ?_ xf | with_reducible refine Ext.tr ?_ xg | with_reducible refine Ext.tr ?_ hx | with_reducible refine Ext.tr ?_ hext | with_reducible assumption)), .inr ⟨rfl, hAn.out, HT3.out, hne.out⟩⟩
                  case rest =>
                    obtain ⟨hx, rfl | ⟨rfl, hA, ht3, hnb⟩⟩ := hcut
                    · as_aux_lemma =>
                      have X8 := X7.out.tr hx
                      clear HREST
                      go_wp2_with fail
                      exact ⟨⟨k + 1, by omega, by go_num, XWO.out.tr (XA.out.tr (XC.out.tr X8))⟩, by simp [intOf]; omega⟩
                    · as_aux_lemma =>
                      obtain ⟨bb, hTB, hlen, hbare⟩ := HREST.out hA ht3 hnb
                      replace j0 := hx.cell j0
                      replace j1 := hx.cell j1
                      replace j2 := hx.cell j2
                      replace zj := cell_lt j0
                      simp only at zj
                      have X8 := Lib.hid (X7.out.tr hx)
                      have R3 := Lib.hid (((O3.out.ext Y4.out).ext Y7.out).ext hx)
                      have R1 := Lib.hid (((((((O1.out.ext Y2.out).ext YV.out).ext Y3.out).ext Y4.out).ext Y7.out).ext hx))
                      have LB := Lib.hid (((HLB.out.ext XA.out).ext XC.out).ext X8.out)
                      have DT : DefAt (fun b => b < w.heap.size) n wc (.agg #[.slice xb t.length xe, .slice a3 B.length cc3, .int .i64 2]) ⟨t, B, 2⟩ :=
                        ⟨⟨xb, xe, a3, cc3, rfl, R3.out, LB.out⟩, fun b hb => by have h1 := XWO.out.size; have h2 := XA.out.size; have h3 := XC.out.size; have h4 := X8.out.size; have hb : b < w.heap.size := hb; omega⟩
                      have OT := Lib.hid (fun u (x : Ext wc u) => out_any (def_ext DT x))
                      have PT := Lib.hid (fun u (x : Ext wc u) => params_any (def_ext DT x))
                      rw [hTB] at OT PT
                      have HBARE := Lib.hid hbare
                      have HLEN := Lib.hid hlen
                      have X0 := Ext.refl wc
                      have PA4 := Lib.hid ((P4.out.ext Y7.out).ext hx)
                      have PALL := Lib.hid (((P24.out.ext Y7.out)).ext hx)
                      have hl2 : (((a.length : Int) + (bb.length : Int)) != (all.length : Int)) = false := by simp; omega
                      have hab : (a.length : Int) + (bb.length : Int) ≤ 9223372036854775807 := by omega
                      clear HREST hA ht3 hnb hTB hbare hlen DT hx
                      go_wp2_with fail
                      refine (OT.out _ X0).mono ?_
                      rintro e v5 ⟨xf, xg, rfl, x5, o5⟩
                      dsimp only
                      replace j0 := x5.cell j0
                      replace j1 := x5.cell j1
                      replace j2 := x5.cell j2
                      replace zj := cell_lt j0
                      simp only at zj
                      have O5 := Lib.hid (Row.of_owns o5).1
                      have X5 := X0.tr x5
                      have Y5 := Lib.hid x5
                      clear OT x5 o5 X0
                      go_wp2_with fail
                      refine (PT.out _ X5).mono ?_
                      rintro e v6 ⟨pe, pf, rfl, x6, p6⟩
                      dsimp only
                      have P6 := Lib.hid p6
                      have X6 := X5.tr x6
                      have EQ := Lib.hid (eqNumbers_any (O5.out.ext x6) ((R1.out.ext Y5.out).ext x6))
                      rw [decide_eq_true rfl] at EQ
                      have hb6 := p6.max
                      have ha6 := P4.out.max
                      clear PT x6 X5 p6 j0 j1 j2 zj
                      go_wp2_with (first | (go_at_call 11; refine (num27_any _ _).mono ?_; rintro e w' ⟨rfl, rfl⟩) | (go_at_call 12; refine EQ.out.mono ?_; rintro e w' ⟨rfl, nq, rfl⟩; clear EQ))
                      obtain ⟨vs, hvs⟩ : ∃ vs, vs = v6.drewN nq := ⟨_, rfl⟩
                      have xs6 : Ext v6 vs := by rw [hvs]; exact (Ext.refl v6).drewN nq
                      rw [← hvs]
                      have XS := Lib.hid (X6.tr xs6)
                      have PA5 := Lib.hid (PA4.out.ext (X6.tr xs6))
                      have PB5 := Lib.hid (P6.out.ext xs6)
                      have PALL5 := Lib.hid (PALL.out.ext (X6.tr xs6))
                      clear hvs xs6 X6 PA4 P6 PALL
                      go_loopw [21] (fun i wx => ∃ m : Nat, m ≤ all.length ∧ i = .int .i64 m ∧ Ext vs wx) (fun i _ => all.length - (intOf i).toNat)
                      case atStart => exact ⟨0, Nat.zero_le _, rfl, Ext.refl _⟩
                      case round =>
                        obtain ⟨m, hm, rfl, x9⟩ := hrel
                        rcases Nat.lt_or_ge m all.length with hlt | hge
                        · as_aux_lemma =>
                          have hmz : (m : Int) < (all.length : Int) := by omega
                          have HX9 := Lib.hid x9
                          obtain ⟨g, c, sa, sc, e1, -, n2, n3, n4, n5⟩ := (PALL5.out.ext x9).at hlt
                          cases e1
                          by_cases hma : m < a.length
                          · as_aux_lemma =>
                            have hmaz : (m : Int) < (a.length : Int) := by omega
                            obtain ⟨g', c', sb, sd, e2, m1, m2, m3, m4, m5⟩ := (PA5.out.ext x9).at hma
                            cases e2
                            obtain ⟨h1, h2, h3⟩ := bare_left HBARE.out hma hlt
                            rw [h1] at m2 m5
                            rw [h2] at m3
                            rw [h3] at m4
                            have EQ3 := Lib.hid (fun u (x : Ext wr u) => eqNumbers_any ((Row.of_owns m5).1.ext x) ((Row.of_owns n5).1.ext x))
                            rw [decide_eq_true rfl] at EQ3
                            have zg := cell_lt n2
                            have zg' := cell_lt m2
                            simp only at zg zg'
                            obtain ⟨⟨qn, qsh, qi, qo⟩, hq⟩ : ∃ p, all[m] = p := ⟨_, rfl⟩
                            rw [hq] at n2 n3 n4 n5 m2 m3 m4 m5 EQ3
                            simp only at n2 n3 n4 n5 m2 m3 m4 m5 EQ3
                            clear h1 h2 h3 x9 hq n5 m5
                            go_wp2_with fail
                            go_quiet ((go_at_call 12; exact Calls.quiet_of (EQ3.out _ (by repeat (first | with_reducible exact Ext.refl _ | with_reducible apply Ext.drew | with_reducible apply Ext.drewN | with_reducible apply Ext.alloc | ((with_reducible refine Ext.setCell ?_ ?_ _); rotate_left; focus (first | (simp; done) | (simp; omega) | omega)) | with_reducible refine Ext.tr ?_ x1 | with_reducible refine Ext.tr ?_ x2 | with_reducible refine Ext.tr ?_ x3 | with_reducible refine Ext.tr ?_ x4 | with_reducible refine Ext.tr ?_ x5 | with_reducible refine Ext.tr ?_ x6 | with_reducible refine Ext.tr ?_ x7 | with_reducible refine Ext.tr ?_ x9 | with_reducible refine Ext.tr ?_ xa | with_reducible refine Ext.tr ?_ xb | with_reducible refine Ext.tr ?_ xc | with_reducible refine Ext.tr ?_ xd | with_reducible refine Ext.tr ?_ xe | with_reducible refine Ext.tr ?_ xf | with_reducible refine Ext.tr ?_ xg | with_reducible refine Ext.tr ?_ hx | with_reducible refine Ext.tr ?_ hext | with_reducible assumption)))))
                            go_wp2_with fail
                            exact ⟨⟨m + 1, by omega, by go_num, HX9.out.tr (by repeat (first | with_reducible exact Ext.refl _ | with_reducible apply Ext.drew | with_reducible apply Ext.drewN | with_reducible apply Ext.alloc | ((with_reducible refine Ext.setCell ?_ ?_ _); rotate_left; focus (first | (simp; done) | (simp; omega) | omega)) | with_reducible refine Ext.tr ?_ x1 | with_reducible refine Ext.tr ?_ x2 | with_reducible refine Ext.tr ?_ x3 | with_reducible refine Ext.tr ?_ x4 | with_reducible refine Ext.tr ?_ x5 | with_reducible refine Ext.tr ?_ x6 | with_reducible refine Ext.tr ?_ x7 | with_reducible refine Ext.tr ?_ x9 | with_reducible refine Ext.tr ?_ xa | with_reducible refine Ext.tr ?_ xb | with_reducible refine Ext.tr ?_ xc | with_reducible refine Ext.tr ?_ xd | with_reducible refine Ext.tr ?_ xe | with_reducible refine Ext.tr ?_ xf | with_reducible refine Ext.tr ?_ xg | with_reducible refine Ext.tr ?_ hx | with_reducible refine Ext.tr ?_ hext | with_reducible assumption))⟩, by simp [intOf]; omega⟩
                          · as_aux_lemma =>
                            have hmaz : ¬ (m : Int) < (a.length : Int) := by omega
                            have hlen := HLEN.out
                            have hmb : m - a.length < bb.length := by omega
                            obtain ⟨g', c', sb, sd, e2, m1, m2, m3, m4, m5⟩ := (PB5.out.ext x9).at hmb
                            cases e2
                            obtain ⟨h1, h2, h3⟩ := bare_right HBARE.out hma hmb hlt
                            rw [h1] at m2 m5
                            rw [h2] at m3
                            rw [h3] at m4
                            have EQ3 := Lib.hid (fun u (x : Ext wr u) => eqNumbers_any ((Row.of_owns m5).1.ext x) ((Row.of_owns n5).1.ext x))
                            rw [decide_eq_true rfl] at EQ3
                            have zg := cell_lt n2
                            have zg' := cell_lt m2
                            simp only at zg zg'
                            obtain ⟨⟨qn, qsh, qi, qo⟩, hq⟩ : ∃ p, all[m] = p := ⟨_, rfl⟩
                            rw [hq] at n2 n3 n4 n5 m2 m3 m4 m5 EQ3
                            simp only at n2 n3 n4 n5 m2 m3 m4 m5 EQ3
                            have wm : IntKind.i64.wrap ((m : Int) - (a.length : Int)) = ((m - a.length : Nat) : Int) := by rw [IntKind.wrap_i64]; omega
                            have w0 : (m : Int) - (a.length : Int) = ((m - a.length : Nat) : Int) := by omega
                            have b0 : (0 : Int) ≤ ((m - a.length : Nat) : Int) := by omega
                            have b1 : ((m - a.length : Nat) : Int) < (bb.length : Int) := by omega
                            clear h1 h2 h3 x9 hq n5 m5
                            go_wp2_with fail
                            go_quiet ((go_at_call 12; exact Calls.quiet_of (EQ3.out _ (by repeat (first | with_reducible exact Ext.refl _ | with_reducible apply Ext.drew | with_reducible apply Ext.drewN | with_reducible apply Ext.alloc | ((with_reducible refine Ext.setCell ?_ ?_ _); rotate_left; focus (first | (simp; done) | (simp; omega) | omega)) | with_reducible refine Ext.tr ?_ x1 | with_reducible refine Ext.tr ?_ x2 | with_reducible refine Ext.tr ?_ x3 | with_reducible refine Ext.tr ?_ x4 | with_reducible refine Ext.tr ?_ x5 | with_reducible refine Ext.tr ?_ x6 | with_reducible refine Ext.tr ?_ x7 | with_reducible refine Ext.tr ?_ x9 | with_reducible refine Ext.tr ?_ xa | with_reducible refine Ext.tr ?_ xb | with_reducible refine Ext.tr ?_ xc | with_reducible refine Ext.tr ?_ xd | with_reducible refine Ext.tr ?_ xe | with_reducible refine Ext.tr ?_ xf | with_reducible refine Ext.tr ?_ xg | with_reducible refine Ext.tr ?_ hx | with_reducible refine Ext.tr ?_ hext | with_reducible assumption)))))
                            go_wp2_with fail
                            exact ⟨⟨m + 1, by omega, by go_num, HX9.out.tr (by repeat (first | with_reducible exact Ext.refl _ | with_reducible apply Ext.drew | with_reducible apply Ext.drewN | with_reducible apply Ext.alloc | ((with_reducible refine Ext.setCell ?_ ?_ _); rotate_left; focus (first | (simp; done) | (simp; omega) | omega)) | with_reducible refine Ext.tr ?_ x1 | with_reducible refine Ext.tr ?_ x2 | with_reducible refine Ext.tr ?_ x3 | with_reducible refine Ext.tr ?_ x4 | with_reducible refine Ext.tr ?_ x5 | with_reducible refine Ext.tr ?_ x6 | with_reducible refine Ext.tr ?_ x7 | with_reducible refine Ext.tr ?_ x9 | with_reducible refine Ext.tr ?_ xa | with_reducible refine Ext.tr ?_ xb | with_reducible refine Ext.tr ?_ xc | with_reducible refine Ext.tr ?_ xd | with_reducible refine Ext.tr ?_ xe | with_reducible refine Ext.tr ?_ xf | with_reducible refine Ext.tr ?_ xg | with_reducible refine Ext.tr ?_ hx | with_reducible refine Ext.tr ?_ hext | with_reducible assumption))⟩, by simp [intOf]; omega⟩
                        · as_aux_lemma =>
                          obtain rfl : m = all.length := by omega
                          have hmz : ¬ ((all.length : Nat) : Int) < (all.length : Int) := by omega
                          go_wp2_with fail
                          exact ⟨⟨k + 1, by omega, by go_num, XWO.out.tr (XA.out.tr (XC.out.tr (X8.out.tr (XS.out.tr x9))))⟩, by simp [intOf]; omega⟩
    · have hor : ¬ (k : Int) < (len : Int) ∨ ((k : Int) < (len : Int) ∧ ¬ (k : Int) < 6) := by omega
      rcases hor with h1z | ⟨h1z, h2z⟩
      all_goals
        clear HT
        go_wp2_with (go_at_call 16; refine (wakes27 _).mono ?_; rintro e w' ⟨rfl, x9⟩)
        go_ret
        exact ⟨rfl, hext.tr x9⟩
end Go.Proofs.YtgokenbojppnhaaDoor
