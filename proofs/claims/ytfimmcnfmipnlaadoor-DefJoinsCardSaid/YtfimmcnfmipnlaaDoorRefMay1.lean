/- Package ratchetref26: name, fits, made of any numbers. -/
import Derived.Test.YtfimmcnfmipnlaaDoorRefDef3
import Derived.Test.YtfimmcnfmipnlaaDoorRefMay0
namespace Go.Proofs.YtfimmcnfmipnlaaDoor
open Go.RowKit
set_option maxHeartbeats 4000000 in
theorem fitsI_any (k : Nat) (hk : k ≤ 13) {v : Value} {ns : List Int} {w : World} (h : RowV w v (intsV ns)) (_hn : ns.length ≤ 100000) :
    Calls Tryd.prog 30 #[.int .i64 k, v] w fun e w' => e = .returned (.bool (fitsI k ns)) ∧ Ext w w' := by
  have RW := Lib.hid h
  obtain ⟨a, cap, rfl, -, -, -⟩ := h
  have hln : (intsV ns).length = ns.length := by simp [intsV]
  rw [hln] at RW ⊢
  have NU := Lib.hid (fun u => numbersR_any k hk (LayF.kind0 k) (.slice none 0 0) rfl u)
  simp only [layA, LayF.kind0, LayF.zero] at NU
  have wk : (placesK k).length ≤ 5 := places_len k
  clear hln
  by_cases hl : ns.length = (placesK k).length
  · have FF := Lib.hid (show fitsI k ns = fitsFromI k 0 ns by unfold fitsI; rw [decide_eq_true hl, Bool.true_and])
    obtain ⟨B, hB⟩ : ∃ B, fitsI k ns = B := ⟨_, rfl⟩
    rw [hB] at FF ⊢
    have hlz : ((ns.length : Int) != ((placesK k).length : Int)) = false := by simp; omega
    clear hB
    go_enter Tryd.func30, Tryd.ntmps30
    go_wp2_with fail
    refine (NU.out _).mono ?_
    rintro e w1 ⟨v1, rfl, x1, own⟩
    obtain ⟨a1, c1, rfl⟩ := own_form0 own
    clear NU own
    go_wp2_with fail
    go_loopw [5, 6, 7] (fun i _lo _hi wr => ∃ j : Nat, j ≤ ns.length ∧ i = .int .i64 j ∧ B = fitsFromI k j (ns.drop j) ∧ wr = w1) (fun i _ _ _ => ns.length - (intOf i).toNat)
    case atStart => exact ⟨0, Nat.zero_le _, rfl, FF.out, rfl⟩
    case round =>
      obtain ⟨j, hj, rfl, hB, hwr⟩ := hrel
      subst hwr
      have HB := Lib.hid hB
      clear hB FF
      rcases Nat.lt_or_ge j ns.length with hlt | hge
      · have hjz : (j : Int) < (ns.length : Int) := by omega
        obtain ⟨g, o, rfl, c0⟩ := intsV_at RW.out hlt
        have kc := x1.cell c0
        have zc := cell_lt kc
        simp only at zc
        have DR := Lib.hid (List.drop_eq_getElem_cons hlt)
        have LC := lows_cases k j
        have FS := Lib.hid (show B = (decide (lowK k j ≤ ns[j] ∧ ns[j] ≤ highK k) && fitsFromI k (j + 1) (ns.drop (j + 1))) by rw [HB.out, DR.out]; rfl)
        clear c0 DR HB
        generalize ns[j] = n at *
        rcases LC with ⟨h1, h3, h4⟩ | ⟨h1, h2, h3, h4⟩ | ⟨h1, h2, h3, h4⟩ | ⟨h1, h2, h3, h4⟩
        · subst h1
          rw [h3, h4] at FS
          by_cases n0 : n < 0
          · obtain rfl : B = false := by rw [FS.out, decide_eq_false (by omega)]; rfl
            clear FS h3 h4
            go_wp2
            go_ret
            exact ⟨rfl, x1⟩
          · skip
            by_cases hh : (99 : Int) < n
            · obtain rfl : B = false := by rw [FS.out, decide_eq_false (by omega)]; rfl
              clear FS h3 h4
              go_wp2
              go_ret
              exact ⟨rfl, x1⟩
            · have FS2 := Lib.hid (show B = fitsFromI 7 (j + 1) (ns.drop (j + 1)) by rw [FS.out, decide_eq_true (by omega)]; rfl)
              clear FS h3 h4
              go_wp2_with fail
              exact ⟨⟨j + 1, by omega, by go_num, FS2.out, trivial⟩, by simp [intOf]; omega⟩
        · subst h1
          subst h2
          rw [h3, h4] at FS
          by_cases n0 : n < 0
          · obtain rfl : B = false := by rw [FS.out, decide_eq_false (by omega)]; rfl
            clear FS h3 h4
            go_wp2
            go_ret
            exact ⟨rfl, x1⟩
          · skip
            by_cases hh : (4096 : Int) < n
            · obtain rfl : B = false := by rw [FS.out, decide_eq_false (by omega)]; rfl
              clear FS h3 h4
              go_wp2
              go_ret
              exact ⟨rfl, x1⟩
            · have FS2 := Lib.hid (show B = fitsFromI 2 (4 + 1) (ns.drop (4 + 1)) by rw [FS.out, decide_eq_true (by omega)]; rfl)
              clear FS h3 h4
              go_wp2_with fail
              exact ⟨⟨4 + 1, by omega, by go_num, FS2.out, trivial⟩, by simp [intOf]; omega⟩
        · subst h1
          rw [h3, h4] at FS
          have j4 : ((j : Int) == 4) = false := by simp; omega
          by_cases h0 : n < 1
          · obtain rfl : B = false := by rw [FS.out, decide_eq_false (by omega)]; rfl
            clear FS h3 h4
            go_wp2
            go_ret
            exact ⟨rfl, x1⟩
          · by_cases hh : (4096 : Int) < n
            · obtain rfl : B = false := by rw [FS.out, decide_eq_false (by omega)]; rfl
              clear FS h3 h4
              go_wp2
              go_ret
              exact ⟨rfl, x1⟩
            · have FS2 := Lib.hid (show B = fitsFromI 2 (j + 1) (ns.drop (j + 1)) by rw [FS.out, decide_eq_true (by omega)]; rfl)
              clear FS h3 h4
              go_wp2_with fail
              exact ⟨⟨j + 1, by omega, by go_num, FS2.out, trivial⟩, by simp [intOf]; omega⟩
        · rw [h3, h4] at FS
          have k2 : ((k : Int) == 2) = false := by simp; omega
          have k7 : ((k : Int) == 7) = false := by simp; omega
          by_cases h0 : n < 1
          · obtain rfl : B = false := by rw [FS.out, decide_eq_false (by omega)]; rfl
            clear FS h3 h4
            go_wp2
            go_ret
            exact ⟨rfl, x1⟩
          · by_cases hh : (4096 : Int) < n
            · obtain rfl : B = false := by rw [FS.out, decide_eq_false (by omega)]; rfl
              clear FS h3 h4
              go_wp2
              go_ret
              exact ⟨rfl, x1⟩
            · have FS2 := Lib.hid (show B = fitsFromI k (j + 1) (ns.drop (j + 1)) by rw [FS.out, decide_eq_true (by omega)]; rfl)
              clear FS h3 h4
              go_wp2_with fail
              exact ⟨⟨j + 1, by omega, by go_num, FS2.out, trivial⟩, by simp [intOf]; omega⟩
      · have hjz : ¬ (j : Int) < (ns.length : Int) := by omega
        obtain rfl : B = true := by rw [HB.out, List.drop_of_length_le hge]; rfl
        clear HB
        go_wp2
        go_ret
        exact ⟨rfl, x1⟩
  · have hlz : ((ns.length : Int) != ((placesK k).length : Int)) = true := by simp; omega
    rw [show fitsI k ns = false by unfold fitsI; rw [decide_eq_false hl, Bool.false_and]]
    go_enter Tryd.func30, Tryd.ntmps30
    go_wp2_with fail
    refine (NU.out _).mono ?_
    rintro e w1 ⟨v1, rfl, x1, own⟩
    obtain ⟨a1, c1, rfl⟩ := own_form0 own
    clear NU own
    go_wp2
    go_ret
    exact ⟨rfl, x1⟩
set_option maxHeartbeats 4000000 in
theorem madeI_any (k : Nat) (hk1 : 1 ≤ k) (hk : k ≤ 13) {v : Value} {ns : List Int} {w : World} (h : RowV w v (intsV ns)) (hl : ns.length = (placesK k).length) :
    Calls Tryd.prog 32 #[.int .i64 k, v] w fun e w' => e = .returned (.agg (layA (setAllI (LayF.kind0 k) (placesK k) ns) (.slice none 0 0))) ∧ Ext w w' := by
  have RW := Lib.hid h
  obtain ⟨a, cap, rfl, -, -, -⟩ := h
  have hln : (intsV ns).length = ns.length := by simp [intsV]
  rw [hln] at RW ⊢
  clear hln
  have hh : k = 1 ∨ k = 2 ∨ k = 3 ∨ k = 4 ∨ k = 5 ∨ k = 6 ∨ k = 7 ∨ k = 8 ∨ k = 9 ∨ k = 10 ∨ k = 11 ∨ k = 12 ∨ k = 13 := by omega
  rcases hh with rfl | rfl | rfl | rfl | rfl | rfl | rfl | rfl | rfl | rfl | rfl | rfl | rfl
  · obtain ⟨n0, n1, rfl⟩ : ∃ n0 n1, ns = [n0, n1] := by
      match ns, hl with
      | [n0, n1], _ => exact ⟨_, _, rfl⟩
    obtain ⟨g, o, rfl, c0⟩ := intsV_at RW.out (i := 0) (by simp)
    have z0 := cell_lt c0
    simp only at z0
    simp only [List.getElem_cons_zero, Nat.add_zero] at c0
    obtain ⟨g', o', e1, c1⟩ := intsV_at RW.out (i := 1) (by simp)
    cases e1
    simp only [List.getElem_cons_zero, List.getElem_cons_succ] at c1
    simp only [List.length_cons, List.length_nil]
    clear RW
    go_enter Tryd.func32, Tryd.ntmps32
    go_wp2_with fail
    (try rw [Exit.noGoto_ret])
    change bodyPost _ _ _ _ _ _
    simp [bodyPost, results, Tryd.results32, go_sem, *]
    exact ⟨rfl, (by repeat (first | with_reducible exact Ext.refl _ | with_reducible apply Ext.drew | with_reducible apply Ext.drewN | with_reducible apply Ext.alloc | ((with_reducible refine Ext.setCell ?_ ?_ _); rotate_left; focus (first | (simp; done) | (simp; omega) | omega)) | with_reducible refine Ext.tr ?_ x1 | with_reducible assumption))⟩
  · obtain ⟨n0, n1, n2, n3, n4, rfl⟩ : ∃ n0 n1 n2 n3 n4, ns = [n0, n1, n2, n3, n4] := by
      match ns, hl with
      | [n0, n1, n2, n3, n4], _ => exact ⟨_, _, _, _, _, rfl⟩
    obtain ⟨g, o, rfl, c0⟩ := intsV_at RW.out (i := 0) (by simp)
    have z0 := cell_lt c0
    simp only at z0
    simp only [List.getElem_cons_zero, Nat.add_zero] at c0
    obtain ⟨g', o', e1, c1⟩ := intsV_at RW.out (i := 1) (by simp)
    cases e1
    simp only [List.getElem_cons_zero, List.getElem_cons_succ] at c1
    obtain ⟨g', o', e1, c2⟩ := intsV_at RW.out (i := 2) (by simp)
    cases e1
    simp only [List.getElem_cons_zero, List.getElem_cons_succ] at c2
    obtain ⟨g', o', e1, c3⟩ := intsV_at RW.out (i := 3) (by simp)
    cases e1
    simp only [List.getElem_cons_zero, List.getElem_cons_succ] at c3
    obtain ⟨g', o', e1, c4⟩ := intsV_at RW.out (i := 4) (by simp)
    cases e1
    simp only [List.getElem_cons_zero, List.getElem_cons_succ] at c4
    simp only [List.length_cons, List.length_nil]
    clear RW
    go_enter Tryd.func32, Tryd.ntmps32
    go_wp2_with fail
    (try rw [Exit.noGoto_ret])
    change bodyPost _ _ _ _ _ _
    simp [bodyPost, results, Tryd.results32, go_sem, *]
    exact ⟨rfl, (by repeat (first | with_reducible exact Ext.refl _ | with_reducible apply Ext.drew | with_reducible apply Ext.drewN | with_reducible apply Ext.alloc | ((with_reducible refine Ext.setCell ?_ ?_ _); rotate_left; focus (first | (simp; done) | (simp; omega) | omega)) | with_reducible refine Ext.tr ?_ x1 | with_reducible assumption))⟩
  · obtain rfl : ns = [] := List.eq_nil_of_length_eq_zero hl
    simp only [List.length_nil]
    clear RW
    go_enter Tryd.func32, Tryd.ntmps32
    go_wp2_with fail
    (try rw [Exit.noGoto_ret])
    change bodyPost _ _ _ _ _ _
    simp [bodyPost, results, Tryd.results32, go_sem, *]
    exact ⟨rfl, (by repeat (first | with_reducible exact Ext.refl _ | with_reducible apply Ext.drew | with_reducible apply Ext.drewN | with_reducible apply Ext.alloc | ((with_reducible refine Ext.setCell ?_ ?_ _); rotate_left; focus (first | (simp; done) | (simp; omega) | omega)) | with_reducible refine Ext.tr ?_ x1 | with_reducible assumption))⟩
  · obtain rfl : ns = [] := List.eq_nil_of_length_eq_zero hl
    simp only [List.length_nil]
    clear RW
    go_enter Tryd.func32, Tryd.ntmps32
    go_wp2_with fail
    (try rw [Exit.noGoto_ret])
    change bodyPost _ _ _ _ _ _
    simp [bodyPost, results, Tryd.results32, go_sem, *]
    exact ⟨rfl, (by repeat (first | with_reducible exact Ext.refl _ | with_reducible apply Ext.drew | with_reducible apply Ext.drewN | with_reducible apply Ext.alloc | ((with_reducible refine Ext.setCell ?_ ?_ _); rotate_left; focus (first | (simp; done) | (simp; omega) | omega)) | with_reducible refine Ext.tr ?_ x1 | with_reducible assumption))⟩
  · obtain rfl : ns = [] := List.eq_nil_of_length_eq_zero hl
    simp only [List.length_nil]
    clear RW
    go_enter Tryd.func32, Tryd.ntmps32
    go_wp2_with fail
    (try rw [Exit.noGoto_ret])
    change bodyPost _ _ _ _ _ _
    simp [bodyPost, results, Tryd.results32, go_sem, *]
    exact ⟨rfl, (by repeat (first | with_reducible exact Ext.refl _ | with_reducible apply Ext.drew | with_reducible apply Ext.drewN | with_reducible apply Ext.alloc | ((with_reducible refine Ext.setCell ?_ ?_ _); rotate_left; focus (first | (simp; done) | (simp; omega) | omega)) | with_reducible refine Ext.tr ?_ x1 | with_reducible assumption))⟩
  · obtain rfl : ns = [] := List.eq_nil_of_length_eq_zero hl
    simp only [List.length_nil]
    clear RW
    go_enter Tryd.func32, Tryd.ntmps32
    go_wp2_with fail
    (try rw [Exit.noGoto_ret])
    change bodyPost _ _ _ _ _ _
    simp [bodyPost, results, Tryd.results32, go_sem, *]
    exact ⟨rfl, (by repeat (first | with_reducible exact Ext.refl _ | with_reducible apply Ext.drew | with_reducible apply Ext.drewN | with_reducible apply Ext.alloc | ((with_reducible refine Ext.setCell ?_ ?_ _); rotate_left; focus (first | (simp; done) | (simp; omega) | omega)) | with_reducible refine Ext.tr ?_ x1 | with_reducible assumption))⟩
  · obtain ⟨n0, rfl⟩ : ∃ n0, ns = [n0] := by
      match ns, hl with
      | [n0], _ => exact ⟨_, rfl⟩
    obtain ⟨g, o, rfl, c0⟩ := intsV_at RW.out (i := 0) (by simp)
    have z0 := cell_lt c0
    simp only at z0
    simp only [List.getElem_cons_zero, Nat.add_zero] at c0
    simp only [List.length_cons, List.length_nil]
    clear RW
    go_enter Tryd.func32, Tryd.ntmps32
    go_wp2_with fail
    (try rw [Exit.noGoto_ret])
    change bodyPost _ _ _ _ _ _
    simp [bodyPost, results, Tryd.results32, go_sem, *]
    exact ⟨rfl, (by repeat (first | with_reducible exact Ext.refl _ | with_reducible apply Ext.drew | with_reducible apply Ext.drewN | with_reducible apply Ext.alloc | ((with_reducible refine Ext.setCell ?_ ?_ _); rotate_left; focus (first | (simp; done) | (simp; omega) | omega)) | with_reducible refine Ext.tr ?_ x1 | with_reducible assumption))⟩
  · obtain ⟨n0, rfl⟩ : ∃ n0, ns = [n0] := by
      match ns, hl with
      | [n0], _ => exact ⟨_, rfl⟩
    obtain ⟨g, o, rfl, c0⟩ := intsV_at RW.out (i := 0) (by simp)
    have z0 := cell_lt c0
    simp only at z0
    simp only [List.getElem_cons_zero, Nat.add_zero] at c0
    simp only [List.length_cons, List.length_nil]
    clear RW
    go_enter Tryd.func32, Tryd.ntmps32
    go_wp2_with fail
    (try rw [Exit.noGoto_ret])
    change bodyPost _ _ _ _ _ _
    simp [bodyPost, results, Tryd.results32, go_sem, *]
    exact ⟨rfl, (by repeat (first | with_reducible exact Ext.refl _ | with_reducible apply Ext.drew | with_reducible apply Ext.drewN | with_reducible apply Ext.alloc | ((with_reducible refine Ext.setCell ?_ ?_ _); rotate_left; focus (first | (simp; done) | (simp; omega) | omega)) | with_reducible refine Ext.tr ?_ x1 | with_reducible assumption))⟩
  · obtain ⟨n0, rfl⟩ : ∃ n0, ns = [n0] := by
      match ns, hl with
      | [n0], _ => exact ⟨_, rfl⟩
    obtain ⟨g, o, rfl, c0⟩ := intsV_at RW.out (i := 0) (by simp)
    have z0 := cell_lt c0
    simp only at z0
    simp only [List.getElem_cons_zero, Nat.add_zero] at c0
    simp only [List.length_cons, List.length_nil]
    clear RW
    go_enter Tryd.func32, Tryd.ntmps32
    go_wp2_with fail
    (try rw [Exit.noGoto_ret])
    change bodyPost _ _ _ _ _ _
    simp [bodyPost, results, Tryd.results32, go_sem, *]
    exact ⟨rfl, (by repeat (first | with_reducible exact Ext.refl _ | with_reducible apply Ext.drew | with_reducible apply Ext.drewN | with_reducible apply Ext.alloc | ((with_reducible refine Ext.setCell ?_ ?_ _); rotate_left; focus (first | (simp; done) | (simp; omega) | omega)) | with_reducible refine Ext.tr ?_ x1 | with_reducible assumption))⟩
  · obtain rfl : ns = [] := List.eq_nil_of_length_eq_zero hl
    simp only [List.length_nil]
    clear RW
    go_enter Tryd.func32, Tryd.ntmps32
    go_wp2_with fail
    (try rw [Exit.noGoto_ret])
    change bodyPost _ _ _ _ _ _
    simp [bodyPost, results, Tryd.results32, go_sem, *]
    exact ⟨rfl, (by repeat (first | with_reducible exact Ext.refl _ | with_reducible apply Ext.drew | with_reducible apply Ext.drewN | with_reducible apply Ext.alloc | ((with_reducible refine Ext.setCell ?_ ?_ _); rotate_left; focus (first | (simp; done) | (simp; omega) | omega)) | with_reducible refine Ext.tr ?_ x1 | with_reducible assumption))⟩
  · obtain ⟨n0, n1, rfl⟩ : ∃ n0 n1, ns = [n0, n1] := by
      match ns, hl with
      | [n0, n1], _ => exact ⟨_, _, rfl⟩
    obtain ⟨g, o, rfl, c0⟩ := intsV_at RW.out (i := 0) (by simp)
    have z0 := cell_lt c0
    simp only at z0
    simp only [List.getElem_cons_zero, Nat.add_zero] at c0
    obtain ⟨g', o', e1, c1⟩ := intsV_at RW.out (i := 1) (by simp)
    cases e1
    simp only [List.getElem_cons_zero, List.getElem_cons_succ] at c1
    simp only [List.length_cons, List.length_nil]
    clear RW
    go_enter Tryd.func32, Tryd.ntmps32
    go_wp2_with fail
    (try rw [Exit.noGoto_ret])
    change bodyPost _ _ _ _ _ _
    simp [bodyPost, results, Tryd.results32, go_sem, *]
    exact ⟨rfl, (by repeat (first | with_reducible exact Ext.refl _ | with_reducible apply Ext.drew | with_reducible apply Ext.drewN | with_reducible apply Ext.alloc | ((with_reducible refine Ext.setCell ?_ ?_ _); rotate_left; focus (first | (simp; done) | (simp; omega) | omega)) | with_reducible refine Ext.tr ?_ x1 | with_reducible assumption))⟩
  · obtain ⟨n0, n1, rfl⟩ : ∃ n0 n1, ns = [n0, n1] := by
      match ns, hl with
      | [n0, n1], _ => exact ⟨_, _, rfl⟩
    obtain ⟨g, o, rfl, c0⟩ := intsV_at RW.out (i := 0) (by simp)
    have z0 := cell_lt c0
    simp only at z0
    simp only [List.getElem_cons_zero, Nat.add_zero] at c0
    obtain ⟨g', o', e1, c1⟩ := intsV_at RW.out (i := 1) (by simp)
    cases e1
    simp only [List.getElem_cons_zero, List.getElem_cons_succ] at c1
    simp only [List.length_cons, List.length_nil]
    clear RW
    go_enter Tryd.func32, Tryd.ntmps32
    go_wp2_with fail
    (try rw [Exit.noGoto_ret])
    change bodyPost _ _ _ _ _ _
    simp [bodyPost, results, Tryd.results32, go_sem, *]
    exact ⟨rfl, (by repeat (first | with_reducible exact Ext.refl _ | with_reducible apply Ext.drew | with_reducible apply Ext.drewN | with_reducible apply Ext.alloc | ((with_reducible refine Ext.setCell ?_ ?_ _); rotate_left; focus (first | (simp; done) | (simp; omega) | omega)) | with_reducible refine Ext.tr ?_ x1 | with_reducible assumption))⟩
  · obtain rfl : ns = [] := List.eq_nil_of_length_eq_zero hl
    simp only [List.length_nil]
    clear RW
    go_enter Tryd.func32, Tryd.ntmps32
    go_wp2_with fail
    (try rw [Exit.noGoto_ret])
    change bodyPost _ _ _ _ _ _
    simp [bodyPost, results, Tryd.results32, go_sem, *]
    exact ⟨rfl, (by repeat (first | with_reducible exact Ext.refl _ | with_reducible apply Ext.drew | with_reducible apply Ext.drewN | with_reducible apply Ext.alloc | ((with_reducible refine Ext.setCell ?_ ?_ _); rotate_left; focus (first | (simp; done) | (simp; omega) | omega)) | with_reducible refine Ext.tr ?_ x1 | with_reducible assumption))⟩
theorem nameR_no (x : Int) (h : x < 1 ∨ 13 < x) (w : World) : Calls Tryd.prog 29 #[.int .i64 x] w fun e w' => e = .returned (.string ⟨#[]⟩) ∧ w = w' := by
  have n1 : (x == 1) = false := by simp; omega
  have n2 : (x == 2) = false := by simp; omega
  have n3 : (x == 3) = false := by simp; omega
  have n4 : (x == 4) = false := by simp; omega
  have n5 : (x == 5) = false := by simp; omega
  have n6 : (x == 6) = false := by simp; omega
  have n7 : (x == 7) = false := by simp; omega
  have n8 : (x == 8) = false := by simp; omega
  have n9 : (x == 9) = false := by simp; omega
  have n10 : (x == 10) = false := by simp; omega
  have n11 : (x == 11) = false := by simp; omega
  have n12 : (x == 12) = false := by simp; omega
  have n13 : (x == 13) = false := by simp; omega
  clear h
  go_enter Tryd.func29, Tryd.ntmps29
  go_wp2
  go_ret
  exact ⟨rfl, rfl⟩
end Go.Proofs.YtfimmcnfmipnlaaDoor
