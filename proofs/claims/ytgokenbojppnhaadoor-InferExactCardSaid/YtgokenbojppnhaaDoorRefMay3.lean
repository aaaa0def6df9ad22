/- ratchetref26.layers: the walk (printed by mkmay3.py). -/
import Derived.Test.YtgokenbojppnhaaDoorRefMay1
import Derived.Test.YtgokenbojppnhaaDoorRefMay2
import Derived.Test.YtgokenbojppnhaaDoorStoreRow
import Derived.Deep.RegionHeld3
import Derived.BigQuiet
namespace Go.Proofs.YtgokenbojppnhaaDoor
open Go.RowKit
theorem numbersI_any (k : Nat) (hk : k ≤ 13) (f : LayF) (bv : Value) (hkf : f.kind = k) (w : World) :
    Calls Tryd.prog 38 #[.agg (layA f bv)] w fun e w' => ∃ v, e = .returned v ∧ Ext w w' ∧ RowV w' v (intsV ((placesK k).map f.at)) :=
  (numbersR_any k hk f bv hkf w).mono fun e w' h => by
    obtain ⟨v, h1, h2, h3⟩ := h
    refine ⟨v, h1, h2, ?_⟩
    have := RowV.of_owns h3
    unfold intsV
    rw [List.map_map]
    exact this
theorem name_ne {k : Nat} (h1 : 1 ≤ k) (h2 : k ≤ 13) : ((ba (nameB k)).toList == []) = false := by
  have hh : k = 1 ∨ k = 2 ∨ k = 3 ∨ k = 4 ∨ k = 5 ∨ k = 6 ∨ k = 7 ∨ k = 8 ∨ k = 9 ∨ k = 10 ∨ k = 11 ∨ k = 12 ∨ k = 13 := by omega
  rw [ba_toList]
  rcases hh with rfl | rfl | rfl | rfl | rfl | rfl | rfl | rfl | rfl | rfl | rfl | rfl | rfl <;> rfl
def LayersOk (n : Nat) : Prop := ∀ (A : Nat → Prop) (v : Value) (L : List Lay) (deep : Nat) (w : World), LaysAt A w n v L → deep ≤ 4 →
  Calls Tryd.prog 28 #[v, .int .i64 deep] w fun e w' => e = .returned (.bool (okA deep L)) ∧ Ext w w'
theorem cell_set_ne {w : World} {b g p q : Nat} {v u : Value} (h : b ≠ g) (hc : w.cell? ⟨b, p, none⟩ = some u) : (w.setCell ⟨g, q, none⟩ v).cell? ⟨b, p, none⟩ = some u :=
  (World.cell?_of_block (Below.heap_setCell w ⟨g, q, none⟩ v b h)).trans hc
theorem blk_nine {w : World} {g : Nat} (h : Blk w g 52 #[.int .i64 0, .int .i64 0, .int .i64 0, .int .i64 0, .int .i64 0, .int .i64 0, .int .i64 0, .int .i64 0, .slice none 0 0]) : w.cell? ⟨g, 0, none⟩ = some (.int .i64 0) ∧ w.cell? ⟨g, 1, none⟩ = some (.int .i64 0) ∧ w.cell? ⟨g, 2, none⟩ = some (.int .i64 0) ∧ w.cell? ⟨g, 3, none⟩ = some (.int .i64 0) ∧ w.cell? ⟨g, 4, none⟩ = some (.int .i64 0) ∧ w.cell? ⟨g, 5, none⟩ = some (.int .i64 0) ∧ w.cell? ⟨g, 6, none⟩ = some (.int .i64 0) ∧ w.cell? ⟨g, 7, none⟩ = some (.int .i64 0) ∧ w.cell? ⟨g, 8, none⟩ = some (.slice none 0 0) ∧ w.frozen? ⟨g, 0, none⟩ = false ∧ w.frozen? ⟨g, 1, none⟩ = false ∧ w.frozen? ⟨g, 2, none⟩ = false ∧ w.frozen? ⟨g, 3, none⟩ = false ∧ w.frozen? ⟨g, 4, none⟩ = false ∧ w.frozen? ⟨g, 5, none⟩ = false ∧ w.frozen? ⟨g, 6, none⟩ = false ∧ w.frozen? ⟨g, 7, none⟩ = false ∧ w.frozen? ⟨g, 8, none⟩ = false ∧ g < w.heap.size :=
  ⟨h.cell 0, h.cell 1, h.cell 2, h.cell 3, h.cell 4, h.cell 5, h.cell 6, h.cell 7, h.cell 8, h.frozen 0, h.frozen 1, h.frozen 2, h.frozen 3, h.frozen 4, h.frozen 5, h.frozen 6, h.frozen 7, h.frozen 8, h.lt⟩
theorem store_nine {w : World} {g : Nat} {v0 v1 v2 v3 v4 v5 v6 v7 v8 : Value} (h : Blk w g 52 #[.int .i64 0, .int .i64 0, .int .i64 0, .int .i64 0, .int .i64 0, .int .i64 0, .int .i64 0, .int .i64 0, .slice none 0 0]) : Blk (((((((((w.setCell ⟨g, 0, none⟩ v0).setCell ⟨g, 1, none⟩ v1).setCell ⟨g, 2, none⟩ v2).setCell ⟨g, 3, none⟩ v3).setCell ⟨g, 4, none⟩ v4).setCell ⟨g, 5, none⟩ v5).setCell ⟨g, 6, none⟩ v6).setCell ⟨g, 7, none⟩ v7).setCell ⟨g, 8, none⟩ v8) g 52 #[v0, v1, v2, v3, v4, v5, v6, v7, v8] := by
  have := (((((((((h.set_ 0 v0).set_ 1 v1).set_ 2 v2).set_ 3 v3).set_ 4 v4).set_ 5 v5).set_ 6 v6).set_ 7 v7).set_ 8 v8)
  simpa using this
theorem okA_cons (deep : Nat) (l : Lay) (ls : List Lay) : okA deep (l :: ls) = (l.okL deep && okA deep ls) := rfl
set_option maxHeartbeats 100000000 in
set_option maxRecDepth 100000 in
theorem layersR_step (n : Nat) (IH : ∀ m, n = m + 1 → LayersOk m) : LayersOk n := by
  intro A v L deep w hL hd
  obtain ⟨a, c, rfl⟩ := hL.form
  have HL := Lib.hid hL
  have IH' := Lib.hid IH
  have hlen : L.length ≤ 9223372036854775807 := by
    cases n with
    | zero => rw [hL.1]; simp
    | succ m => obtain ⟨_, _, h, h1, _⟩ := hL; unfold maxLen at h1; omega
  obtain ⟨T, hT⟩ : ∃ T, okA deep L = T := ⟨_, rfl⟩
  rw [hT]
  have HT := Lib.hid hT
  clear hL IH hT
  go_enter Tryd.func28, Tryd.ntmps28
  go_wp2_with fail
  go_loopw [5] (fun i wr => ∃ k : Nat, k ≤ L.length ∧ i = .int .i64 k ∧ okA deep (L.drop k) = T ∧ Ext w wr) (fun i _ => L.length - (intOf i).toNat)
  case atStart => exact ⟨0, Nat.zero_le _, rfl, HT.out, Ext.refl _⟩
  case round =>
    obtain ⟨k, hk, rfl, hw, hx⟩ := hrel
    have HX := Lib.hid hx
    clear HT
    rcases Nat.lt_or_ge k L.length with hlt | hge
    · have hlz : (k : Int) < (L.length : Int) := by omega
      rw [List.drop_eq_getElem_cons hlt, okA_cons] at hw
      have HL1 := Lib.hid (HL.out.ext hx)
      cases n with
      | zero => have := HL.out.1; rw [this] at hlt; simp at hlt
      | succ n =>
        obtain ⟨a', c', e, h1, h2⟩ := HL1.out
        obtain ⟨b, o, rfl, hAb, hel⟩ := h2 (by rintro rfl; simp at hlt)
        cases e
        obtain ⟨bv, -, hc, hb⟩ := hel k hlt
        obtain ⟨ba, bc, rfl⟩ := hb.form
        obtain ⟨y0, y1, y2, y3, y4, y5, y6, y7, y8⟩ := nineE hc
        have zc := cell_lt y0
        simp only at zc
        have IHn := Lib.hid (IH'.out n rfl)
        have HB := Lib.hid hb
        have HD := Lib.hid (show L[k] = .mk L[k].f L[k].b by cases L[k]; rfl)
        rw [HD.out] at hw
        clear hel hc hb h2 HL1 HL IH' hx HD
        generalize L[k].b = bl at *
        generalize L[k].f = f at *
        by_cases hk0 : f.kind < 1 ∨ 13 < f.kind
        · rw [okL_no f bl deep hk0, Bool.false_and] at hw
          subst hw
          have NA := Lib.hid (fun u => nameR_no f.kind hk0 u)
          clear hk0 IHn HB
          go_wp2_with fail
          go_quiet (first | (go_at_call 36; exact q0 (NA.out _)))
          go_wp2_with fail
          go_ret
          exact ⟨rfl, HX.out.tr (by repeat (first | with_reducible exact Ext.refl _ | with_reducible apply Ext.drew | with_reducible apply Ext.drewN | with_reducible apply Ext.alloc | ((with_reducible refine Ext.setCell ?_ ?_ _); rotate_left; focus (first | (simp; done) | (simp; omega) | omega)) | with_reducible refine Ext.tr ?_ x1 | with_reducible refine Ext.tr ?_ x2 | with_reducible refine Ext.tr ?_ x3 | with_reducible refine Ext.tr ?_ x4 | with_reducible refine Ext.tr ?_ x9 | with_reducible refine Ext.tr ?_ xa | with_reducible refine Ext.tr ?_ hx | with_reducible assumption))⟩
        · obtain ⟨K, hK⟩ : ∃ K : Nat, f.kind = K := ⟨f.kind.toNat, by omega⟩
          have hK1 : 1 ≤ K := by omega
          have hK2 : K ≤ 13 := by omega
          rw [okL_kind f bl deep K hK1 hK2 hK, ← okF_int] at hw
          obtain ⟨ns, hns⟩ : ∃ ns, (placesK K).map f.at = ns := ⟨_, rfl⟩
          have hnl : ns.length = (placesK K).length := by rw [← hns, List.length_map]
          have hn5 : (placesK K).length ≤ 5 := places_len K
          have NU := Lib.hid (fun u => numbersI_any K hK2 f (.slice ba bl.length bc) hK u)
          have NE := name_ne hK1 hK2
          have NA := Lib.hid (fun u => nameR_any K hK2 u)
          have EQL := Lib.hid (fun g u (x : Ext wr u) => eqLayer_of n (eqLayers_any n) (f := g) (g := f) (HB.out.ext x) (HB.out.ext x))
          obtain ⟨N, hN⟩ : ∃ N, Go.Proofs.YtgokenbojppnhaaDoor.ba (nameB K) = N := ⟨_, rfl⟩
          rw [hN] at NA NE
          rw [hns] at NU hw
          simp only [layA] at NU EQL
          obtain ⟨B, hB⟩ : ∃ B, fitsI K ns = B := ⟨_, rfl⟩
          have FI := Lib.hid (fun u v (h : RowV u v (intsV ns)) => fitsI_any K hK2 h (by omega))
          rw [hB] at FI hw
          have MA := Lib.hid (fun u v (h : RowV u v (intsV ns)) => madeI_any K hK1 hK2 h hnl)
          obtain ⟨G, hG⟩ : ∃ G, setAllI (LayF.kind0 K) (placesK K) ns = G := ⟨_, rfl⟩
          rw [hG] at MA hw
          simp only [layA] at MA
          have NU2 := Lib.hid NU.out
          rw [← hK] at NA FI MA
          have HW := Lib.hid hw
          have HK := Lib.hid hK
          have HK1 := Lib.hid hK1
          have HK2 := Lib.hid hK2
          clear hN hns hB hG hk0 hnl hn5 hw hK hK1 hK2
          go_wp2_with fail
          have KP := Lib.hid (fun (W : World) (x : Ext wr W) => (show W.cell? ⟨b, o + k * 9, none⟩ = some (.int .i64 f.kind) ∧ W.cell? ⟨b, o + k * 9 + 1, none⟩ = some (.int .i64 f.inn) ∧ W.cell? ⟨b, o + k * 9 + 2, none⟩ = some (.int .i64 f.out) ∧ W.cell? ⟨b, o + k * 9 + 3, none⟩ = some (.int .i64 f.size) ∧ W.cell? ⟨b, o + k * 9 + 4, none⟩ = some (.int .i64 f.stride) ∧ W.cell? ⟨b, o + k * 9 + 5, none⟩ = some (.int .i64 f.pad) ∧ W.cell? ⟨b, o + k * 9 + 6, none⟩ = some (.int .i64 f.percent) ∧ W.cell? ⟨b, o + k * 9 + 7, none⟩ = some (.int .i64 f.heads) ∧ W.cell? ⟨b, o + k * 9 + 8, none⟩ = some (.slice ba bl.length bc) ∧ b < W.heap.size ∧ Ext wr W from ⟨x.cell y0, x.cell y1, x.cell y2, x.cell y3, x.cell y4, x.cell y5, x.cell y6, x.cell y7, x.cell y8, Nat.lt_of_lt_of_le zc x.size, x⟩))
          go_cut [33] (fun s33 wx => s33 = .bool (!B) ∧ Ext wr wx)
          case first => as_aux_lemma =>
            go_region_held3 (fun w' => w'.cell? ⟨b, o + k * 9, none⟩ = some (.int .i64 f.kind) ∧ w'.cell? ⟨b, o + k * 9 + 1, none⟩ = some (.int .i64 f.inn) ∧ w'.cell? ⟨b, o + k * 9 + 2, none⟩ = some (.int .i64 f.out) ∧ w'.cell? ⟨b, o + k * 9 + 3, none⟩ = some (.int .i64 f.size) ∧ w'.cell? ⟨b, o + k * 9 + 4, none⟩ = some (.int .i64 f.stride) ∧ w'.cell? ⟨b, o + k * 9 + 5, none⟩ = some (.int .i64 f.pad) ∧ w'.cell? ⟨b, o + k * 9 + 6, none⟩ = some (.int .i64 f.percent) ∧ w'.cell? ⟨b, o + k * 9 + 7, none⟩ = some (.int .i64 f.heads) ∧ w'.cell? ⟨b, o + k * 9 + 8, none⟩ = some (.slice ba bl.length bc) ∧ b < w'.heap.size ∧ Ext wr w')
              (exact KP.out _ (by repeat (first | with_reducible exact Ext.refl _ | with_reducible apply Ext.drew | with_reducible apply Ext.drewN | with_reducible apply Ext.alloc | ((with_reducible refine Ext.setCell ?_ ?_ _); rotate_left; focus (first | (simp; done) | (simp; omega) | omega)) | with_reducible refine Ext.tr ?_ x1 | with_reducible refine Ext.tr ?_ x2 | with_reducible refine Ext.tr ?_ x3 | with_reducible refine Ext.tr ?_ x4 | with_reducible refine Ext.tr ?_ x9 | with_reducible refine Ext.tr ?_ xa | with_reducible refine Ext.tr ?_ hx | with_reducible assumption)))
              (first
                | ((go_at_call 36; refine (NA.out _).mono ?_; rintro e w' ⟨rfl, rfl⟩))
                | ((go_at_call 38; refine (NU.out _).mono ?_; rintro e v1 ⟨q1, rfl, x1, h1⟩; obtain ⟨c1, f1⟩ := x1.rules; have z1 := x1.size); clear NU; (try simp at z1))
                | ((go_at_call 37; refine (FI.out _ _ (h1.ext (by repeat (first | with_reducible exact Ext.refl _ | with_reducible apply Ext.drew | with_reducible apply Ext.drewN | with_reducible apply Ext.alloc | ((with_reducible refine Ext.setCell ?_ ?_ _); rotate_left; focus (first | (simp; done) | (simp; omega) | omega)) | with_reducible refine Ext.tr ?_ x1 | with_reducible refine Ext.tr ?_ x2 | with_reducible refine Ext.tr ?_ x3 | with_reducible refine Ext.tr ?_ x4 | with_reducible refine Ext.tr ?_ x9 | with_reducible refine Ext.tr ?_ xa | with_reducible refine Ext.tr ?_ hx | with_reducible assumption)))).mono ?_; rintro e v2 ⟨rfl, x2⟩; obtain ⟨c2, f2⟩ := x2.rules; have z2 := x2.size); clear FI; (try simp at z2)))
            all_goals
              go_wp2_with fail
              go_meet
              exact ⟨rfl, (by repeat (first | with_reducible exact Ext.refl _ | with_reducible apply Ext.drew | with_reducible apply Ext.drewN | with_reducible apply Ext.alloc | ((with_reducible refine Ext.setCell ?_ ?_ _); rotate_left; focus (first | (simp; done) | (simp; omega) | omega)) | with_reducible refine Ext.tr ?_ x1 | with_reducible refine Ext.tr ?_ x2 | with_reducible refine Ext.tr ?_ x3 | with_reducible refine Ext.tr ?_ x4 | with_reducible refine Ext.tr ?_ x9 | with_reducible refine Ext.tr ?_ xa | with_reducible refine Ext.tr ?_ hx | with_reducible assumption))⟩
          case rest =>
            obtain ⟨rfl, xA⟩ := hcut
            have XA := Lib.hid (HX.out.tr xA)
            cases B with
            | false =>
              rw [Bool.false_and, Bool.false_and, Bool.false_and] at HW
              obtain rfl := HW.out
              clear NU NU2 NE NA EQL FI MA IHn
              go_wp2_with fail
              go_ret
              exact ⟨rfl, XA.out⟩
            | true =>
              rw [Bool.true_and] at HW
              replace y0 := xA.cell y0
              replace y1 := xA.cell y1
              replace y2 := xA.cell y2
              replace y3 := xA.cell y3
              replace y4 := xA.cell y4
              replace y5 := xA.cell y5
              replace y6 := xA.cell y6
              replace y7 := xA.cell y7
              replace y8 := xA.cell y8
              have zc2 : b < wc.heap.size := cell_lt y0
              simp only [Bool.not_true]
              obtain ⟨wa, rfl⟩ : ∃ wa, wa = wc := ⟨_, rfl⟩
              clear NE NA FI zc NU
              go_wp2_with fail
              have KP := Lib.hid (fun (W : World) (x : Ext wa W) => (show W.cell? ⟨b, o + k * 9, none⟩ = some (.int .i64 f.kind) ∧ W.cell? ⟨b, o + k * 9 + 1, none⟩ = some (.int .i64 f.inn) ∧ W.cell? ⟨b, o + k * 9 + 2, none⟩ = some (.int .i64 f.out) ∧ W.cell? ⟨b, o + k * 9 + 3, none⟩ = some (.int .i64 f.size) ∧ W.cell? ⟨b, o + k * 9 + 4, none⟩ = some (.int .i64 f.stride) ∧ W.cell? ⟨b, o + k * 9 + 5, none⟩ = some (.int .i64 f.pad) ∧ W.cell? ⟨b, o + k * 9 + 6, none⟩ = some (.int .i64 f.percent) ∧ W.cell? ⟨b, o + k * 9 + 7, none⟩ = some (.int .i64 f.heads) ∧ W.cell? ⟨b, o + k * 9 + 8, none⟩ = some (.slice ba bl.length bc) ∧ b < W.heap.size ∧ Ext wa W from ⟨x.cell y0, x.cell y1, x.cell y2, x.cell y3, x.cell y4, x.cell y5, x.cell y6, x.cell y7, x.cell y8, Nat.lt_of_lt_of_le zc2 x.size, x⟩))
              go_cut [6] (fun s6 wx => ∃ wy g, wy = wx ∧ s6 = .pointer (some ⟨g, 0, none⟩) ∧ wa.heap.size ≤ g ∧ Blk wx g 52 #[.int .i64 G.kind, .int .i64 G.inn, .int .i64 G.out, .int .i64 G.size, .int .i64 G.stride, .int .i64 G.pad, .int .i64 G.percent, .int .i64 G.heads, .slice none 0 0] ∧ Ext wa wx)
              case first => as_aux_lemma =>
                refine wp_region_held_drew (S := fun w' => w'.cell? ⟨b, o + k * 9, none⟩ = some (.int .i64 f.kind) ∧ w'.cell? ⟨b, o + k * 9 + 1, none⟩ = some (.int .i64 f.inn) ∧ w'.cell? ⟨b, o + k * 9 + 2, none⟩ = some (.int .i64 f.out) ∧ w'.cell? ⟨b, o + k * 9 + 3, none⟩ = some (.int .i64 f.size) ∧ w'.cell? ⟨b, o + k * 9 + 4, none⟩ = some (.int .i64 f.stride) ∧ w'.cell? ⟨b, o + k * 9 + 5, none⟩ = some (.int .i64 f.pad) ∧ w'.cell? ⟨b, o + k * 9 + 6, none⟩ = some (.int .i64 f.percent) ∧ w'.cell? ⟨b, o + k * 9 + 7, none⟩ = some (.int .i64 f.heads) ∧ w'.cell? ⟨b, o + k * 9 + 8, none⟩ = some (.slice ba bl.length bc) ∧ b < w'.heap.size ∧ Ext wa w') (by kernel_rfl) ?_ (fun hHeld => ?_)
                · (try dsimp only)
                  exact KP.out _ (by repeat (first | with_reducible exact Ext.refl _ | with_reducible apply Ext.drew | with_reducible apply Ext.drewN | with_reducible apply Ext.alloc | ((with_reducible refine Ext.setCell ?_ ?_ _); rotate_left; focus (first | (simp; done) | (simp; omega) | omega)) | with_reducible refine Ext.tr ?_ x1 | with_reducible refine Ext.tr ?_ x2 | with_reducible refine Ext.tr ?_ x3 | with_reducible refine Ext.tr ?_ x4 | with_reducible refine Ext.tr ?_ x9 | with_reducible refine Ext.tr ?_ xa | with_reducible refine Ext.tr ?_ hx | with_reducible assumption))
                change wpAnyH _ _ _ _ _ 13 (Array.replicate 13 false) _ _
                refine wpAnyH_take (i := 0) (v := ?_) rfl (by kernel_rfl) (by kernel_rfl) (by kernel_rfl) (fun _ _ _ h => h) (Or.inl ⟨by kernel_rfl, ?_⟩) (by assumption) ?_
                rotate_left
                · (intro w hSw; (try dsimp only at hSw); go_simp; (try with_reducible rfl))
                (try simp only [List.getElem_toArray, List.getElem_cons_zero, Act.put, List.setIfInBounds_toArray, List.set_cons_zero, List.set_cons_succ])
                refine wpAnyH_take (i := 1) (v := ?_) rfl (by kernel_rfl) (by kernel_rfl) (by kernel_rfl) (fun _ _ _ h => h) (Or.inl ⟨by kernel_rfl, ?_⟩) (by assumption) ?_
                rotate_left
                · (intro w hSw; (try dsimp only at hSw); go_simp; (try with_reducible rfl))
                (try simp only [List.getElem_toArray, List.getElem_cons_succ, List.getElem_cons_zero, Act.put, List.setIfInBounds_toArray, List.set_cons_zero, List.set_cons_succ])
                refine wpAnyH_take (i := 2) (v := ?_) rfl (by kernel_rfl) (by kernel_rfl) (by kernel_rfl) (fun _ _ _ h => h) (Or.inl ⟨by kernel_rfl, ?_⟩) (by assumption) ?_
                rotate_left
                · (intro w hSw; (try dsimp only at hSw); go_simp; (try with_reducible rfl))
                (try simp only [List.getElem_toArray, List.getElem_cons_succ, List.getElem_cons_zero, Act.put, List.setIfInBounds_toArray, List.set_cons_zero, List.set_cons_succ])
                refine wpAnyH_take (i := 3) (v := ?_) rfl (by kernel_rfl) (by kernel_rfl) (by kernel_rfl) (fun _ _ _ h => h) (Or.inl ⟨by kernel_rfl, ?_⟩) (by assumption) ?_
                rotate_left
                · (intro w hSw; (try dsimp only at hSw); go_simp; (try with_reducible rfl))
                (try simp only [List.getElem_toArray, List.getElem_cons_succ, List.getElem_cons_zero, Act.put, List.setIfInBounds_toArray, List.set_cons_zero, List.set_cons_succ])
                refine wpAnyH_take (i := 4) (v := ?_) rfl (by kernel_rfl) (by kernel_rfl) (by kernel_rfl) (fun _ _ _ h => h) (Or.inl ⟨by kernel_rfl, ?_⟩) (by assumption) ?_
                rotate_left
                · (intro w hSw; (try dsimp only at hSw); go_simp; (try with_reducible rfl))
                (try simp only [List.getElem_toArray, List.getElem_cons_succ, List.getElem_cons_zero, Act.put, List.setIfInBounds_toArray, List.set_cons_zero, List.set_cons_succ])
                refine wpAnyH_take (i := 5) (v := ?_) rfl (by kernel_rfl) (by kernel_rfl) (by kernel_rfl) (fun _ _ _ h => h) (Or.inl ⟨by kernel_rfl, ?_⟩) (by assumption) ?_
                rotate_left
                · (intro w hSw; (try dsimp only at hSw); go_simp; (try with_reducible rfl))
                (try simp only [List.getElem_toArray, List.getElem_cons_succ, List.getElem_cons_zero, Act.put, List.setIfInBounds_toArray, List.set_cons_zero, List.set_cons_succ])
                refine wpAnyH_take (i := 6) (v := ?_) rfl (by kernel_rfl) (by kernel_rfl) (by kernel_rfl) (fun _ _ _ h => h) (Or.inl ⟨by kernel_rfl, ?_⟩) (by assumption) ?_
                rotate_left
                · (intro w hSw; (try dsimp only at hSw); go_simp; (try with_reducible rfl))
                (try simp only [List.getElem_toArray, List.getElem_cons_succ, List.getElem_cons_zero, Act.put, List.setIfInBounds_toArray, List.set_cons_zero, List.set_cons_succ])
                refine wpAnyH_take (i := 7) (v := ?_) rfl (by kernel_rfl) (by kernel_rfl) (by kernel_rfl) (fun _ _ _ h => h) (Or.inl ⟨by kernel_rfl, ?_⟩) (by assumption) ?_
                rotate_left
                · (intro w hSw; (try dsimp only at hSw); go_simp; (try with_reducible rfl))
                (try simp only [List.getElem_toArray, List.getElem_cons_succ, List.getElem_cons_zero, Act.put, List.setIfInBounds_toArray, List.set_cons_zero, List.set_cons_succ])
                refine wpAnyH_take (i := 8) (v := ?_) rfl (by kernel_rfl) (by kernel_rfl) (by kernel_rfl) (fun _ _ _ h => h) (Or.inl ⟨by kernel_rfl, ?_⟩) (by assumption) ?_
                rotate_left
                · (intro w hSw; (try dsimp only at hSw); go_simp; (try with_reducible rfl))
                (try simp only [List.getElem_toArray, List.getElem_cons_succ, List.getElem_cons_zero, Act.put, List.setIfInBounds_toArray, List.set_cons_zero, List.set_cons_succ])
                refine wpAnyH_ready (rs := [9, 11]) (by kernel_rfl) (by simp) ?_
                refine AllReadyH.cons rfl (fun K hK => ?_) (AllReadyH.cons rfl (fun K hK => ?_) AllReadyH.nil)
                · go_simp
                  go_at_call 38
                  refine (NU2.out _).mono ?_
                  rintro e v3 ⟨q3, rfl, x3, h3⟩
                  have y3' : Ext wa v3 := (by repeat (first | with_reducible exact Ext.refl _ | with_reducible apply Ext.drew | with_reducible apply Ext.drewN | with_reducible apply Ext.alloc | ((with_reducible refine Ext.setCell ?_ ?_ _); rotate_left; focus (first | (simp; done) | (simp; omega) | omega)) | with_reducible refine Ext.tr ?_ x1 | with_reducible refine Ext.tr ?_ x2 | with_reducible refine Ext.tr ?_ x3 | with_reducible refine Ext.tr ?_ x4 | with_reducible refine Ext.tr ?_ x9 | with_reducible refine Ext.tr ?_ xa | with_reducible refine Ext.tr ?_ hx | with_reducible assumption))
                  have z3 := y3'.size
                  have zm : b < v3.heap.size := Nat.lt_of_lt_of_le zc2 z3
                  clear NU2
                  go_wp2_with fail
                  refine hK.out _ _ ?_ (fun hHeld => ?_)
                  · (try dsimp only)
                    exact KP.out _ (by repeat (first | with_reducible exact Ext.refl _ | with_reducible apply Ext.drew | with_reducible apply Ext.drewN | with_reducible apply Ext.alloc | ((with_reducible refine Ext.setCell ?_ ?_ _); rotate_left; focus (first | (simp; done) | (simp; omega) | omega)) | with_reducible refine Ext.tr ?_ x1 | with_reducible refine Ext.tr ?_ x2 | with_reducible refine Ext.tr ?_ x3 | with_reducible refine Ext.tr ?_ x4 | with_reducible refine Ext.tr ?_ x9 | with_reducible refine Ext.tr ?_ xa | with_reducible refine Ext.tr ?_ hx | with_reducible assumption))
                  clear hK K
                  (try simp only [List.getElem_toArray, List.getElem_cons_succ, List.getElem_cons_zero, Act.put, List.setIfInBounds_toArray, List.set_cons_zero, List.set_cons_succ])
                  refine wpAnyH_ready (rs := [10, 11]) (by kernel_rfl) (by simp) ?_
                  refine AllReadyH.cons rfl (fun K hK => ?_) (AllReadyH.cons rfl (fun K hK => ?_) AllReadyH.nil)
                  · go_simp
                    go_at_call 39
                    refine (MA.out _ _ (h3.ext (by repeat (first | with_reducible exact Ext.refl _ | with_reducible apply Ext.drew | with_reducible apply Ext.drewN | with_reducible apply Ext.alloc | ((with_reducible refine Ext.setCell ?_ ?_ _); rotate_left; focus (first | (simp; done) | (simp; omega) | omega)) | with_reducible refine Ext.tr ?_ x1 | with_reducible refine Ext.tr ?_ x2 | with_reducible refine Ext.tr ?_ x3 | with_reducible refine Ext.tr ?_ x4 | with_reducible refine Ext.tr ?_ x9 | with_reducible refine Ext.tr ?_ xa | with_reducible refine Ext.tr ?_ hx | with_reducible assumption)))).mono ?_
                    rintro e v4 ⟨rfl, x4⟩
                    have y34 : Ext v3 v4 := (by repeat (first | with_reducible exact Ext.refl _ | with_reducible apply Ext.drew | with_reducible apply Ext.drewN | with_reducible apply Ext.alloc | ((with_reducible refine Ext.setCell ?_ ?_ _); rotate_left; focus (first | (simp; done) | (simp; omega) | omega)) | with_reducible refine Ext.tr ?_ x1 | with_reducible refine Ext.tr ?_ x2 | with_reducible refine Ext.tr ?_ x3 | with_reducible refine Ext.tr ?_ x4 | with_reducible refine Ext.tr ?_ x9 | with_reducible refine Ext.tr ?_ xa | with_reducible refine Ext.tr ?_ hx | with_reducible assumption))
                    have y4' : Ext wa v4 := (by repeat (first | with_reducible exact Ext.refl _ | with_reducible apply Ext.drew | with_reducible apply Ext.drewN | with_reducible apply Ext.alloc | ((with_reducible refine Ext.setCell ?_ ?_ _); rotate_left; focus (first | (simp; done) | (simp; omega) | omega)) | with_reducible refine Ext.tr ?_ x1 | with_reducible refine Ext.tr ?_ x2 | with_reducible refine Ext.tr ?_ x3 | with_reducible refine Ext.tr ?_ x4 | with_reducible refine Ext.tr ?_ x9 | with_reducible refine Ext.tr ?_ xa | with_reducible refine Ext.tr ?_ hx | with_reducible assumption))
                    have z34 := y34.size
                    have z4 := y4'.size
                    have zn : b < v4.heap.size := Nat.lt_of_lt_of_le zc2 z4
                    clear MA
                    go_wp2_with fail
                    refine hK.out _ _ ?_ (fun hHeld => ?_)
                    · (try dsimp only)
                      exact KP.out _ (by repeat (first | with_reducible exact Ext.refl _ | with_reducible apply Ext.drew | with_reducible apply Ext.drewN | with_reducible apply Ext.alloc | ((with_reducible refine Ext.setCell ?_ ?_ _); rotate_left; focus (first | (simp; done) | (simp; omega) | omega)) | with_reducible refine Ext.tr ?_ x1 | with_reducible refine Ext.tr ?_ x2 | with_reducible refine Ext.tr ?_ x3 | with_reducible refine Ext.tr ?_ x4 | with_reducible refine Ext.tr ?_ x9 | with_reducible refine Ext.tr ?_ xa | with_reducible refine Ext.tr ?_ hx | with_reducible assumption))
                    clear hK K
                    (try simp only [List.getElem_toArray, List.getElem_cons_succ, List.getElem_cons_zero, Act.put, List.setIfInBounds_toArray, List.set_cons_zero, List.set_cons_succ])
                    refine wpAnyH_ready (rs := [11]) (by kernel_rfl) (by simp) ?_
                    refine AllReadyH.cons rfl (fun K hK => ?_) AllReadyH.nil
                    go_simp
                    refine hK.out _ _ ?_ (fun hHeld => ?_)
                    · (try dsimp only)
                      exact KP.out _ (by repeat (first | with_reducible exact Ext.refl _ | with_reducible apply Ext.drew | with_reducible apply Ext.drewN | with_reducible apply Ext.alloc | ((with_reducible refine Ext.setCell ?_ ?_ _); rotate_left; focus (first | (simp; done) | (simp; omega) | omega)) | with_reducible refine Ext.tr ?_ x1 | with_reducible refine Ext.tr ?_ x2 | with_reducible refine Ext.tr ?_ x3 | with_reducible refine Ext.tr ?_ x4 | with_reducible refine Ext.tr ?_ x9 | with_reducible refine Ext.tr ?_ xa | with_reducible refine Ext.tr ?_ hx | with_reducible assumption))
                    clear hK K
                    (try simp only [List.getElem_toArray, List.getElem_cons_succ, List.getElem_cons_zero, Act.put, List.setIfInBounds_toArray, List.set_cons_zero, List.set_cons_succ])
                    refine wpAnyH_ready (rs := [12]) (by kernel_rfl) (by simp) ?_
                    refine AllReadyH.cons rfl (fun K hK => ?_) AllReadyH.nil
                    go_simp
                    refine hK.out _ _ ?_ (fun hHeld => ?_)
                    · (try dsimp only)
                      exact KP.out _ (by repeat (first | with_reducible exact Ext.refl _ | with_reducible apply Ext.drew | with_reducible apply Ext.drewN | with_reducible apply Ext.alloc | ((with_reducible refine Ext.setCell ?_ ?_ _); rotate_left; focus (first | (simp; done) | (simp; omega) | omega)) | with_reducible refine Ext.tr ?_ x1 | with_reducible refine Ext.tr ?_ x2 | with_reducible refine Ext.tr ?_ x3 | with_reducible refine Ext.tr ?_ x4 | with_reducible refine Ext.tr ?_ x9 | with_reducible refine Ext.tr ?_ xa | with_reducible refine Ext.tr ?_ hx | with_reducible assumption))
                    clear hK K
                    (try simp only [List.getElem_toArray, List.getElem_cons_succ, List.getElem_cons_zero, Act.put, List.setIfInBounds_toArray, List.set_cons_zero, List.set_cons_succ])
                    refine wpAnyH_done (by kernel_rfl) ?_ _
                    go_wp2_with fail
                    go_meet
                    exact ⟨_, _, rfl, rfl, by omega, Blk.new _ _ _, (by repeat (first | with_reducible exact Ext.refl _ | with_reducible apply Ext.drew | with_reducible apply Ext.drewN | with_reducible apply Ext.alloc | ((with_reducible refine Ext.setCell ?_ ?_ _); rotate_left; focus (first | (simp; done) | (simp; omega) | omega)) | with_reducible refine Ext.tr ?_ x1 | with_reducible refine Ext.tr ?_ x2 | with_reducible refine Ext.tr ?_ x3 | with_reducible refine Ext.tr ?_ x4 | with_reducible refine Ext.tr ?_ x9 | with_reducible refine Ext.tr ?_ xa | with_reducible refine Ext.tr ?_ hx | with_reducible assumption))⟩
                  · go_simp
                    refine hK.out _ _ ?_ (fun hHeld => ?_)
                    · (try dsimp only)
                      exact KP.out _ (by repeat (first | with_reducible exact Ext.refl _ | with_reducible apply Ext.drew | with_reducible apply Ext.drewN | with_reducible apply Ext.alloc | ((with_reducible refine Ext.setCell ?_ ?_ _); rotate_left; focus (first | (simp; done) | (simp; omega) | omega)) | with_reducible refine Ext.tr ?_ x1 | with_reducible refine Ext.tr ?_ x2 | with_reducible refine Ext.tr ?_ x3 | with_reducible refine Ext.tr ?_ x4 | with_reducible refine Ext.tr ?_ x9 | with_reducible refine Ext.tr ?_ xa | with_reducible refine Ext.tr ?_ hx | with_reducible assumption))
                    clear hK K
                    (try simp only [List.getElem_toArray, List.getElem_cons_succ, List.getElem_cons_zero, Act.put, List.setIfInBounds_toArray, List.set_cons_zero, List.set_cons_succ])
                    refine wpAnyH_ready (rs := [10]) (by kernel_rfl) (by simp) ?_
                    refine AllReadyH.cons rfl (fun K hK => ?_) AllReadyH.nil
                    go_simp
                    go_at_call 39
                    refine (MA.out _ _ (h3.ext (by repeat (first | with_reducible exact Ext.refl _ | with_reducible apply Ext.drew | with_reducible apply Ext.drewN | with_reducible apply Ext.alloc | ((with_reducible refine Ext.setCell ?_ ?_ _); rotate_left; focus (first | (simp; done) | (simp; omega) | omega)) | with_reducible refine Ext.tr ?_ x1 | with_reducible refine Ext.tr ?_ x2 | with_reducible refine Ext.tr ?_ x3 | with_reducible refine Ext.tr ?_ x4 | with_reducible refine Ext.tr ?_ x9 | with_reducible refine Ext.tr ?_ xa | with_reducible refine Ext.tr ?_ hx | with_reducible assumption)))).mono ?_
                    rintro e v4 ⟨rfl, x4⟩
                    have y34 : Ext v3 v4 := (by repeat (first | with_reducible exact Ext.refl _ | with_reducible apply Ext.drew | with_reducible apply Ext.drewN | with_reducible apply Ext.alloc | ((with_reducible refine Ext.setCell ?_ ?_ _); rotate_left; focus (first | (simp; done) | (simp; omega) | omega)) | with_reducible refine Ext.tr ?_ x1 | with_reducible refine Ext.tr ?_ x2 | with_reducible refine Ext.tr ?_ x3 | with_reducible refine Ext.tr ?_ x4 | with_reducible refine Ext.tr ?_ x9 | with_reducible refine Ext.tr ?_ xa | with_reducible refine Ext.tr ?_ hx | with_reducible assumption))
                    have y4' : Ext wa v4 := (by repeat (first | with_reducible exact Ext.refl _ | with_reducible apply Ext.drew | with_reducible apply Ext.drewN | with_reducible apply Ext.alloc | ((with_reducible refine Ext.setCell ?_ ?_ _); rotate_left; focus (first | (simp; done) | (simp; omega) | omega)) | with_reducible refine Ext.tr ?_ x1 | with_reducible refine Ext.tr ?_ x2 | with_reducible refine Ext.tr ?_ x3 | with_reducible refine Ext.tr ?_ x4 | with_reducible refine Ext.tr ?_ x9 | with_reducible refine Ext.tr ?_ xa | with_reducible refine Ext.tr ?_ hx | with_reducible assumption))
                    have z34 := y34.size
                    have z4 := y4'.size
                    have zn : b < v4.heap.size := Nat.lt_of_lt_of_le zc2 z4
                    have BK := Blk.ext (Blk.new _ _ _) x4
                    
                    clear MA
                    go_wp2_with fail
                    refine hK.out _ _ ?_ (fun hHeld => ?_)
                    · (try dsimp only)
                      exact KP.out _ (by repeat (first | with_reducible exact Ext.refl _ | with_reducible apply Ext.drew | with_reducible apply Ext.drewN | with_reducible apply Ext.alloc | ((with_reducible refine Ext.setCell ?_ ?_ _); rotate_left; focus (first | (simp; done) | (simp; omega) | omega)) | with_reducible refine Ext.tr ?_ x1 | with_reducible refine Ext.tr ?_ x2 | with_reducible refine Ext.tr ?_ x3 | with_reducible refine Ext.tr ?_ x4 | with_reducible refine Ext.tr ?_ x9 | with_reducible refine Ext.tr ?_ xa | with_reducible refine Ext.tr ?_ hx | with_reducible assumption))
                    clear hK K
                    (try simp only [List.getElem_toArray, List.getElem_cons_succ, List.getElem_cons_zero, Act.put, List.setIfInBounds_toArray, List.set_cons_zero, List.set_cons_succ])
                    refine wpAnyH_ready (rs := [12]) (by kernel_rfl) (by simp) ?_
                    refine AllReadyH.cons rfl (fun K hK => ?_) AllReadyH.nil
                    refine want_pos (by kernel_rfl) ?_
                    refine wp_store_row _ _ _ rfl _ _ rfl rfl _ _ BK (by kernel_rfl) rfl (by simp [Value.oneCell']) ?_
                    have xR := fun cs => Ext.setRow (g := v3.heap.size) y4' (by omega) cs
                    refine hK.out _ _ ?_ (fun hHeld => ?_)
                    · (try dsimp only)
                      exact KP.out _ (xR _)
                    clear hK K
                    (try simp only [List.getElem_toArray, List.getElem_cons_succ, List.getElem_cons_zero, Act.put])
                    refine wpAnyH_done (by kernel_rfl) ?_ _
                    go_wp2_with fail
                    go_meet
                    exact ⟨_, _, rfl, rfl, by omega, Blk.row BK, xR _⟩
                · go_simp
                  refine hK.out _ _ ?_ (fun hHeld => ?_)
                  · (try dsimp only)
                    exact KP.out _ (by repeat (first | with_reducible exact Ext.refl _ | with_reducible apply Ext.drew | with_reducible apply Ext.drewN | with_reducible apply Ext.alloc | ((with_reducible refine Ext.setCell ?_ ?_ _); rotate_left; focus (first | (simp; done) | (simp; omega) | omega)) | with_reducible refine Ext.tr ?_ x1 | with_reducible refine Ext.tr ?_ x2 | with_reducible refine Ext.tr ?_ x3 | with_reducible refine Ext.tr ?_ x4 | with_reducible refine Ext.tr ?_ x9 | with_reducible refine Ext.tr ?_ xa | with_reducible refine Ext.tr ?_ hx | with_reducible assumption))
                  clear hK K
                  (try simp only [List.getElem_toArray, List.getElem_cons_succ, List.getElem_cons_zero, Act.put, List.setIfInBounds_toArray, List.set_cons_zero, List.set_cons_succ])
                  refine wpAnyH_ready (rs := [9]) (by kernel_rfl) (by simp) ?_
                  refine AllReadyH.cons rfl (fun K hK => ?_) AllReadyH.nil
                  go_simp
                  go_at_call 38
                  refine (NU2.out _).mono ?_
                  rintro e v3 ⟨q3, rfl, x3, h3⟩
                  have y3' : Ext wa v3 := (by repeat (first | with_reducible exact Ext.refl _ | with_reducible apply Ext.drew | with_reducible apply Ext.drewN | with_reducible apply Ext.alloc | ((with_reducible refine Ext.setCell ?_ ?_ _); rotate_left; focus (first | (simp; done) | (simp; omega) | omega)) | with_reducible refine Ext.tr ?_ x1 | with_reducible refine Ext.tr ?_ x2 | with_reducible refine Ext.tr ?_ x3 | with_reducible refine Ext.tr ?_ x4 | with_reducible refine Ext.tr ?_ x9 | with_reducible refine Ext.tr ?_ xa | with_reducible refine Ext.tr ?_ hx | with_reducible assumption))
                  have z3 := y3'.size
                  have zm : b < v3.heap.size := Nat.lt_of_lt_of_le zc2 z3
                  have BK := Blk.ext (Blk.drew (Blk.new _ _ _)) x3
                  clear NU2
                  go_wp2_with fail
                  refine hK.out _ _ ?_ (fun hHeld => ?_)
                  · (try dsimp only)
                    exact KP.out _ (by repeat (first | with_reducible exact Ext.refl _ | with_reducible apply Ext.drew | with_reducible apply Ext.drewN | with_reducible apply Ext.alloc | ((with_reducible refine Ext.setCell ?_ ?_ _); rotate_left; focus (first | (simp; done) | (simp; omega) | omega)) | with_reducible refine Ext.tr ?_ x1 | with_reducible refine Ext.tr ?_ x2 | with_reducible refine Ext.tr ?_ x3 | with_reducible refine Ext.tr ?_ x4 | with_reducible refine Ext.tr ?_ x9 | with_reducible refine Ext.tr ?_ xa | with_reducible refine Ext.tr ?_ hx | with_reducible assumption))
                  clear hK K
                  (try simp only [List.getElem_toArray, List.getElem_cons_succ, List.getElem_cons_zero, Act.put, List.setIfInBounds_toArray, List.set_cons_zero, List.set_cons_succ])
                  refine wpAnyH_ready (rs := [10]) (by kernel_rfl) (by simp) ?_
                  refine AllReadyH.cons rfl (fun K hK => ?_) AllReadyH.nil
                  go_simp
                  go_at_call 39
                  refine (MA.out _ _ (h3.ext (by repeat (first | with_reducible exact Ext.refl _ | with_reducible apply Ext.drew | with_reducible apply Ext.drewN | with_reducible apply Ext.alloc | ((with_reducible refine Ext.setCell ?_ ?_ _); rotate_left; focus (first | (simp; done) | (simp; omega) | omega)) | with_reducible refine Ext.tr ?_ x1 | with_reducible refine Ext.tr ?_ x2 | with_reducible refine Ext.tr ?_ x3 | with_reducible refine Ext.tr ?_ x4 | with_reducible refine Ext.tr ?_ x9 | with_reducible refine Ext.tr ?_ xa | with_reducible refine Ext.tr ?_ hx | with_reducible assumption)))).mono ?_
                  rintro e v4 ⟨rfl, x4⟩
                  have y34 : Ext v3 v4 := (by repeat (first | with_reducible exact Ext.refl _ | with_reducible apply Ext.drew | with_reducible apply Ext.drewN | with_reducible apply Ext.alloc | ((with_reducible refine Ext.setCell ?_ ?_ _); rotate_left; focus (first | (simp; done) | (simp; omega) | omega)) | with_reducible refine Ext.tr ?_ x1 | with_reducible refine Ext.tr ?_ x2 | with_reducible refine Ext.tr ?_ x3 | with_reducible refine Ext.tr ?_ x4 | with_reducible refine Ext.tr ?_ x9 | with_reducible refine Ext.tr ?_ xa | with_reducible refine Ext.tr ?_ hx | with_reducible assumption))
                  have y4' : Ext wa v4 := (by repeat (first | with_reducible exact Ext.refl _ | with_reducible apply Ext.drew | with_reducible apply Ext.drewN | with_reducible apply Ext.alloc | ((with_reducible refine Ext.setCell ?_ ?_ _); rotate_left; focus (first | (simp; done) | (simp; omega) | omega)) | with_reducible refine Ext.tr ?_ x1 | with_reducible refine Ext.tr ?_ x2 | with_reducible refine Ext.tr ?_ x3 | with_reducible refine Ext.tr ?_ x4 | with_reducible refine Ext.tr ?_ x9 | with_reducible refine Ext.tr ?_ xa | with_reducible refine Ext.tr ?_ hx | with_reducible assumption))
                  have z34 := y34.size
                  have z4 := y4'.size
                  have zn : b < v4.heap.size := Nat.lt_of_lt_of_le zc2 z4
                  have BK2 := BK.ext y34
                  
                  clear BK
                  clear MA
                  go_wp2_with fail
                  refine hK.out _ _ ?_ (fun hHeld => ?_)
                  · (try dsimp only)
                    exact KP.out _ (by repeat (first | with_reducible exact Ext.refl _ | with_reducible apply Ext.drew | with_reducible apply Ext.drewN | with_reducible apply Ext.alloc | ((with_reducible refine Ext.setCell ?_ ?_ _); rotate_left; focus (first | (simp; done) | (simp; omega) | omega)) | with_reducible refine Ext.tr ?_ x1 | with_reducible refine Ext.tr ?_ x2 | with_reducible refine Ext.tr ?_ x3 | with_reducible refine Ext.tr ?_ x4 | with_reducible refine Ext.tr ?_ x9 | with_reducible refine Ext.tr ?_ xa | with_reducible refine Ext.tr ?_ hx | with_reducible assumption))
                  clear hK K
                  (try simp only [List.getElem_toArray, List.getElem_cons_succ, List.getElem_cons_zero, Act.put, List.setIfInBounds_toArray, List.set_cons_zero, List.set_cons_succ])
                  refine wpAnyH_ready (rs := [12]) (by kernel_rfl) (by simp) ?_
                  refine AllReadyH.cons rfl (fun K hK => ?_) AllReadyH.nil
                  refine want_pos (by kernel_rfl) ?_
                  refine wp_store_row _ _ _ rfl _ _ rfl rfl _ _ BK2 (by kernel_rfl) rfl (by simp [Value.oneCell']) ?_
                  have xR := fun cs => Ext.setRow (g := wa.heap.size) y4' (Nat.le_refl _) cs
                  refine hK.out _ _ ?_ (fun hHeld => ?_)
                  · (try dsimp only)
                    exact KP.out _ (xR _)
                  clear hK K
                  (try simp only [List.getElem_toArray, List.getElem_cons_succ, List.getElem_cons_zero, Act.put])
                  refine wpAnyH_done (by kernel_rfl) ?_ _
                  go_wp2_with fail
                  go_meet
                  exact ⟨_, _, rfl, rfl, Nat.le_refl _, Blk.row BK2, xR _⟩
              case rest =>
                obtain ⟨wy, g, rfl, rfl, hg, BG, xG⟩ := hcut
                have q8 := BG.frozen 8
                have g0 : wy.cell? ⟨g, 0, none⟩ = some (.int .i64 G.kind) := BG.cell 0
                have g1 : wy.cell? ⟨g, 1, none⟩ = some (.int .i64 G.inn) := BG.cell 1
                have g2 : wy.cell? ⟨g, 2, none⟩ = some (.int .i64 G.out) := BG.cell 2
                have g3 : wy.cell? ⟨g, 3, none⟩ = some (.int .i64 G.size) := BG.cell 3
                have g4 : wy.cell? ⟨g, 4, none⟩ = some (.int .i64 G.stride) := BG.cell 4
                have g5 : wy.cell? ⟨g, 5, none⟩ = some (.int .i64 G.pad) := BG.cell 5
                have g6 : wy.cell? ⟨g, 6, none⟩ = some (.int .i64 G.percent) := BG.cell 6
                have g7 : wy.cell? ⟨g, 7, none⟩ = some (.int .i64 G.heads) := BG.cell 7
                have g8 : wy.cell? ⟨g, 8, none⟩ = some (.slice none 0 0) := BG.cell 8
                replace y0 := xG.cell y0
                replace y1 := xG.cell y1
                replace y2 := xG.cell y2
                replace y3 := xG.cell y3
                replace y4 := xG.cell y4
                replace y5 := xG.cell y5
                replace y6 := xG.cell y6
                replace y7 := xG.cell y7
                replace y8 := xG.cell y8
                have zg : g < wy.heap.size := cell_lt g0
                have zb : b < wy.heap.size := cell_lt y0
                have hgb : b ≠ g := by omega
                clear MA NU2 BG
                go_upto_region 8 with (fail)
                obtain ⟨V, hV⟩ : ∃ V : World, wy.setCell ⟨g, 8, none⟩ (.slice ba bl.length bc) = V := ⟨_, rfl⟩
                have xV : Ext wa V := by rw [← hV]; exact (by repeat (first | with_reducible exact Ext.refl _ | with_reducible apply Ext.drew | with_reducible apply Ext.drewN | with_reducible apply Ext.alloc | ((with_reducible refine Ext.setCell ?_ ?_ _); rotate_left; focus (first | (simp; done) | (simp; omega) | omega)) | with_reducible refine Ext.tr ?_ x1 | with_reducible refine Ext.tr ?_ x2 | with_reducible refine Ext.tr ?_ x3 | with_reducible refine Ext.tr ?_ x4 | with_reducible refine Ext.tr ?_ x9 | with_reducible refine Ext.tr ?_ xa | with_reducible refine Ext.tr ?_ hx | with_reducible assumption))
                have v0 : V.cell? ⟨g, 0, none⟩ = some (.int .i64 G.kind) := by rw [← hV]; simp [go_sem, g0]
                have v1 : V.cell? ⟨g, 1, none⟩ = some (.int .i64 G.inn) := by rw [← hV]; simp [go_sem, g1]
                have v2 : V.cell? ⟨g, 2, none⟩ = some (.int .i64 G.out) := by rw [← hV]; simp [go_sem, g2]
                have v3 : V.cell? ⟨g, 3, none⟩ = some (.int .i64 G.size) := by rw [← hV]; simp [go_sem, g3]
                have v4 : V.cell? ⟨g, 4, none⟩ = some (.int .i64 G.stride) := by rw [← hV]; simp [go_sem, g4]
                have v5 : V.cell? ⟨g, 5, none⟩ = some (.int .i64 G.pad) := by rw [← hV]; simp [go_sem, g5]
                have v6 : V.cell? ⟨g, 6, none⟩ = some (.int .i64 G.percent) := by rw [← hV]; simp [go_sem, g6]
                have v7 : V.cell? ⟨g, 7, none⟩ = some (.int .i64 G.heads) := by rw [← hV]; simp [go_sem, g7]
                have v8 : V.cell? ⟨g, 8, none⟩ = some (.slice ba bl.length bc) := by rw [← hV]; simp [go_sem, g8]
                have u0 : V.cell? ⟨b, o + k * 9, none⟩ = some (.int .i64 f.kind) := by rw [← hV]; exact (cell_set_ne hgb y0)
                have u1 : V.cell? ⟨b, o + k * 9 + 1, none⟩ = some (.int .i64 f.inn) := by rw [← hV]; exact (cell_set_ne hgb y1)
                have u2 : V.cell? ⟨b, o + k * 9 + 2, none⟩ = some (.int .i64 f.out) := by rw [← hV]; exact (cell_set_ne hgb y2)
                have u3 : V.cell? ⟨b, o + k * 9 + 3, none⟩ = some (.int .i64 f.size) := by rw [← hV]; exact (cell_set_ne hgb y3)
                have u4 : V.cell? ⟨b, o + k * 9 + 4, none⟩ = some (.int .i64 f.stride) := by rw [← hV]; exact (cell_set_ne hgb y4)
                have u5 : V.cell? ⟨b, o + k * 9 + 5, none⟩ = some (.int .i64 f.pad) := by rw [← hV]; exact (cell_set_ne hgb y5)
                have u6 : V.cell? ⟨b, o + k * 9 + 6, none⟩ = some (.int .i64 f.percent) := by rw [← hV]; exact (cell_set_ne hgb y6)
                have u7 : V.cell? ⟨b, o + k * 9 + 7, none⟩ = some (.int .i64 f.heads) := by rw [← hV]; exact (cell_set_ne hgb y7)
                have u8 : V.cell? ⟨b, o + k * 9 + 8, none⟩ = some (.slice ba bl.length bc) := by rw [← hV]; exact (cell_set_ne hgb y8)
                have zgV : g < V.heap.size := cell_lt v0
                have zbV : b < V.heap.size := cell_lt u0
                rw [hV]
                have EQ := Lib.hid (EQL.out G V.drew ((xA.tr xV).drew))
                have XV := Lib.hid (XA.out.tr xV)
                have XRV := Lib.hid (xA.tr xV)
                have D0 := Lib.hid (fun (p : Addr) (u : Value) (hp : V.cell? p = some u) => (show V.drew.cell? p = some u from hp))
                obtain ⟨D, hD⟩ : ∃ D, decide (G = f) = D := ⟨_, rfl⟩
                rw [hD] at EQ HW
                clear g0 y0 g1 y1 g2 y2 g3 y3 g4 y4 g5 y5 g6 y6 g7 y7 g8 y8
                clear hV xV xG q8 zg zb EQL hD
                go_wp2_with fail
                go_still_tail 5, (by kernel_rfl)
                change wpList _ _ _ _ _ V.drew
                obtain ⟨V2, hV2⟩ : ∃ V2, V.drew = V2 := ⟨_, rfl⟩
                have XD := Lib.hid (show Ext w V2 by rw [← hV2]; exact XV.out.drew)
                have XR := Lib.hid (show Ext wr V2 by rw [← hV2]; exact XRV.out.drew)
                rw [hV2] at EQ D0 ⊢
                clear hV2 v0 v1 v2 v3 v4 v5 v6 v7 v8 u1 u2 u3 u4 u5 u6 u7 zgV XV XA xA KP XRV
                cases D with
                | false =>
                  rw [Bool.false_and, Bool.false_and] at HW
                  obtain rfl := HW.out
                  clear HW IHn HB
                  go_wp2_with fail
                  refine (EQ.out).mono ?_
                  rintro e v9 ⟨rfl, x9⟩
                  clear EQ
                  go_wp2_with fail
                  go_ret
                  exact ⟨rfl, XD.out.tr x9⟩
                | true =>
                  rw [Bool.true_and] at HW
                  have d0 := Lib.hid u0
                  have d8 := Lib.hid u8
                  clear u0 u8 zbV
                  go_wp2_with fail
                  refine (EQ.out).mono ?_
                  rintro e v9 ⟨rfl, x9⟩
                  clear EQ
                  have c0 := x9.cell (D0.out _ _ d0.out)
                  have c8 := x9.cell (D0.out _ _ d8.out)
                  have zc9 : b < v9.heap.size := cell_lt c0
                  have X9 := Lib.hid (XD.out.tr x9)
                  have R9 := Lib.hid (XR.out.tr x9)
                  clear x9 d0 d8 D0 XD XR
                  by_cases h13 : K = 13
                  · subst h13
                    rw [if_pos rfl] at HW
                    replace c0 : v9.cell? ⟨b, o + k * 9, none⟩ = some (.int .i64 13) := by rw [c0, HK.out]; rfl
                    clear HK HK1 HK2
                    by_cases h4 : deep = 4
                    · subst h4
                      rw [decide_eq_false (by omega), Bool.false_and, Bool.false_and] at HW
                      obtain rfl := HW.out
                      clear HW IHn HB
                      go_wp2_with fail
                      go_ret
                      exact ⟨rfl, X9.out⟩
                    · rw [decide_eq_true (show deep < 4 by omega), Bool.true_and] at HW
                      have hdz : ((deep : Int) == 4) = false := by simp; omega
                      have wd : IntKind.i64.wrap ((deep : Int) + 1) = (deep : Int) + 1 := by rw [IntKind.wrap_i64]; omega
                      have IHc := Lib.hid (IHn.out A _ bl (deep + 1) v9 (HB.out.ext R9.out) (by omega))
                      rw [Int.natCast_succ] at IHc
                      obtain ⟨O, hO⟩ : ∃ O, okA (deep + 1) bl = O := ⟨_, rfl⟩
                      rw [hO] at IHc HW
                      clear hO IHn HB R9 h4
                      cases O with
                      | false =>
                        rw [Bool.false_and] at HW
                        obtain rfl := HW.out
                        clear HW
                        go_wp2_with fail
                        refine (IHc.out).mono ?_
                        rintro e va ⟨rfl, xa⟩
                        clear IHc
                        go_wp2_with fail
                        go_ret
                        exact ⟨rfl, X9.out.tr xa⟩
                      | true =>
                        rw [Bool.true_and] at HW
                        go_wp2_with fail
                        refine (IHc.out).mono ?_
                        rintro e va ⟨rfl, xa⟩
                        clear IHc
                        go_wp2_with fail
                        exact ⟨⟨k + 1, by omega, by go_num, HW.out, X9.out.tr xa⟩, by simp [intOf]; omega⟩
                  · rw [if_neg h13] at HW
                    have e13 : (f.kind == 13) = false := by rw [HK.out]; simp; omega
                    have n13 : (f.kind != 13) = true := by rw [HK.out]; simp; omega
                    clear HK HK1 HK2 IHn HB R9 h13
                    cases bl with
                    | nil =>
                      rw [List.isEmpty_nil, Bool.true_and] at HW
                      simp only [List.length_nil] at c8
                      go_wp2_with fail
                      exact ⟨⟨k + 1, by omega, by go_num, HW.out, X9.out⟩, by simp [intOf]; omega⟩
                    | cons l1 bl =>
                      rw [List.isEmpty_cons, Bool.false_and] at HW
                      obtain rfl := HW.out
                      have hpz : (0 : Int) < ((l1 :: bl).length : Int) := by simp only [List.length_cons]; omega
                      obtain ⟨q, hq⟩ : ∃ q, (l1 :: bl).length = q := ⟨_, rfl⟩
                      rw [hq] at c8 hpz
                      clear HW hq
                      go_wp2_with fail
                      go_ret
                      exact ⟨rfl, X9.out⟩
    · have hlz : ¬ (k : Int) < (L.length : Int) := by omega
      rw [List.drop_eq_nil_of_le hge, okA] at hw
      subst hw
      clear HL IH'
      go_wp2_with fail
      go_ret
      exact ⟨rfl, HX.out⟩
theorem layersR_any : ∀ n, LayersOk n
  | 0 => layersR_step 0 (fun _ h => by omega)
  | n + 1 => layersR_step (n + 1) (fun m h => by
    have e : m = n := by omega
    rw [e]; exact layersR_any n)
end Go.Proofs.YtgokenbojppnhaaDoor
