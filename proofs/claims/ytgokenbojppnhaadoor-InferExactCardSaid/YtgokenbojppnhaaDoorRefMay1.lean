/- Package ratchetref26: name, words, all. Package ratchetref26: numbers, made, fits. Package ratchetref26: fits, layer. Layer 26, the plain law: fits, made of any numbers. No function of the program is named here. Package ratchetref26: name, fits, made of any numbers. -/
import Derived.Test.YtgokenbojppnhaaDoorDefParse
import Derived.Test.YtgokenbojppnhaaDoorDefMay
namespace Go.Proofs.YtgokenbojppnhaaDoor
open Go.RowKit
theorem nameR_any (k : Nat) (hk : k ≤ 13) (w : World) : Calls Tryd.prog 36 #[.int .i64 k] w fun e w' => e = .returned (.string (ba (nameB k))) ∧ w = w' := by
  have hh : k = 0 ∨ k = 1 ∨ k = 2 ∨ k = 3 ∨ k = 4 ∨ k = 5 ∨ k = 6 ∨ k = 7 ∨ k = 8 ∨ k = 9 ∨ k = 10 ∨ k = 11 ∨ k = 12 ∨ k = 13 := by omega
  rcases hh with rfl | rfl | rfl | rfl | rfl | rfl | rfl | rfl | rfl | rfl | rfl | rfl | rfl | rfl
  all_goals
    go_enter Tryd.func36, Tryd.ntmps36
    go_wp2
    go_ret
    exact ⟨rfl, rfl⟩
/-- What all tells. -/
def allRes (base : Nat) (w : World) (iv : Value) (ok : Bool) : Option (List Nat) → Prop
  | none => iv = .slice none 0 0 ∧ ok = false
  | some ns => ok = true ∧ w.ownsRow base 3 1 iv ns.length (ns.map (fun (n : Nat) => Value.int .i64 (n : Int)))
theorem numM_none {t : Bs} (h : numB t = none) : numM t = -1 := by unfold numM; rw [h]
theorem numM_some {t : Bs} {n : Nat} (h : numB t = some n) : numM t = n := by unfold numM; rw [h]
end Go.Proofs.YtgokenbojppnhaaDoor
namespace Go.Proofs.YtgokenbojppnhaaDoor
open Go.RowKit
theorem Blk.new' {w : World} {t : TypeId} {cs : Array Value} {n : Nat} (h : w.heap.size = n) : Blk (w.alloc (.cells cs t)) n t cs := by
  subst h; exact Blk.new w t cs
set_option maxHeartbeats 1000000 in
theorem numbersR_any (k : Nat) (hk : k ≤ 13) (f : LayF) (bv : Value) (hkf : f.kind = k) (w : World) :
    Calls Tryd.prog 38 #[.agg (layA f bv)] w fun e w' => ∃ v, e = .returned v ∧ Ext w w' ∧ w'.ownsRow w.heap.size 3 1 v (placesK k).length ((placesK k).map (fun p => Value.int .i64 (f.at p))) := by
  obtain ⟨fk, fi, fo, fs, ft, fp, fc, fh⟩ := f
  simp only at hkf
  subst hkf
  have hh : k = 0 ∨ k = 1 ∨ k = 2 ∨ k = 3 ∨ k = 4 ∨ k = 5 ∨ k = 6 ∨ k = 7 ∨ k = 8 ∨ k = 9 ∨ k = 10 ∨ k = 11 ∨ k = 12 ∨ k = 13 := by omega
  simp only [layA]
  rcases hh with rfl | rfl | rfl | rfl | rfl | rfl | rfl | rfl | rfl | rfl | rfl | rfl | rfl | rfl
  all_goals
    go_enter Tryd.func38, Tryd.ntmps38
    go_wp2
    go_ret
    refine ⟨_, rfl, (by repeat (first | with_reducible exact Ext.refl _ | with_reducible apply Ext.drew | with_reducible apply Ext.drewN | with_reducible apply Ext.alloc | ((with_reducible refine Ext.setCell ?_ ?_ _); rotate_left; focus (first | (simp; done) | (simp; omega) | omega)) | with_reducible refine Ext.tr ?_ x1 | with_reducible refine Ext.tr ?_ hx | with_reducible assumption)), ?_⟩
    first
      | exact ⟨rfl, .inl ⟨rfl, rfl⟩⟩
      | exact ⟨rfl, .inr ⟨_, _, _, rfl, by simp, Blk.new' (by simp), Nat.le_refl _, by simp [maxLen], rfl, by simp [placesK, LayF.at]⟩⟩
/-- Numbers, as a row's values. -/
def natsV (ns : List Nat) : List Value := ns.map (fun (n : Nat) => Value.int .i64 (n : Int))
theorem natsV_at {w : World} {a : Option Addr} {n c : Nat} {ns : List Nat} (h : RowV w (.slice a n c) (natsV ns)) {i : Nat} (hi : i < ns.length) : ∃ g o, a = some ⟨g, o, none⟩ ∧ w.cell? ⟨g, o + i, none⟩ = some (.int .i64 (ns[i] : Int)) := by
  obtain ⟨a', c', e, -, -, h3⟩ := h
  injection e with e1 _ _
  subst e1
  obtain ⟨g, o, rfl, hc⟩ := h3 (by intro e; have := congrArg List.length e; simp [natsV] at this; subst this; simp at hi)
  exact ⟨g, o, rfl, (hc i (by simpa [natsV] using hi)).trans (by simp [natsV, hi])⟩
set_option maxHeartbeats 4000000 in
theorem madeR_any (k : Nat) (hk1 : 1 ≤ k) (hk : k ≤ 13) {v : Value} {ns : List Nat} {w : World} (h : RowV w v (natsV ns)) (hl : ns.length = (placesK k).length) :
    Calls Tryd.prog 39 #[.int .i64 k, v] w fun e w' => e = .returned (.agg (layA (setAll (LayF.kind0 k) (placesK k) ns) (.slice none 0 0))) ∧ Ext w w' := by
  have RW := Lib.hid h
  obtain ⟨a, cap, rfl, -, -, -⟩ := h
  have hln : (natsV ns).length = ns.length := by simp [natsV]
  rw [hln] at RW ⊢
  clear hln
  have hh : k = 1 ∨ k = 2 ∨ k = 3 ∨ k = 4 ∨ k = 5 ∨ k = 6 ∨ k = 7 ∨ k = 8 ∨ k = 9 ∨ k = 10 ∨ k = 11 ∨ k = 12 ∨ k = 13 := by omega
  rcases hh with rfl | rfl | rfl | rfl | rfl | rfl | rfl | rfl | rfl | rfl | rfl | rfl | rfl
  · obtain ⟨n0, n1, rfl⟩ : ∃ n0 n1, ns = [n0, n1] := by
      match ns, hl with
      | [n0, n1], _ => exact ⟨_, _, rfl⟩
    obtain ⟨g, o, rfl, c0⟩ := natsV_at RW.out (i := 0) (by simp)
    have z0 := cell_lt c0
    simp only at z0
    simp only [List.getElem_cons_zero, Nat.add_zero] at c0
    obtain ⟨g', o', e1, c1⟩ := natsV_at RW.out (i := 1) (by simp)
    cases e1
    simp only [List.getElem_cons_zero, List.getElem_cons_succ] at c1
    simp only [List.length_cons, List.length_nil]
    clear RW
    go_enter Tryd.func39, Tryd.ntmps39
    go_wp2_with fail
    (try rw [Exit.noGoto_ret])
    change bodyPost _ _ _ _ _ _
    simp [bodyPost, results, Tryd.results39, go_sem, *]
    exact ⟨rfl, (by repeat (first | with_reducible exact Ext.refl _ | with_reducible apply Ext.drew | with_reducible apply Ext.drewN | with_reducible apply Ext.alloc | ((with_reducible refine Ext.setCell ?_ ?_ _); rotate_left; focus (first | (simp; done) | (simp; omega) | omega)) | with_reducible refine Ext.tr ?_ x1 | with_reducible refine Ext.tr ?_ hx | with_reducible assumption))⟩
  · obtain ⟨n0, n1, n2, n3, n4, rfl⟩ : ∃ n0 n1 n2 n3 n4, ns = [n0, n1, n2, n3, n4] := by
      match ns, hl with
      | [n0, n1, n2, n3, n4], _ => exact ⟨_, _, _, _, _, rfl⟩
    obtain ⟨g, o, rfl, c0⟩ := natsV_at RW.out (i := 0) (by simp)
    have z0 := cell_lt c0
    simp only at z0
    simp only [List.getElem_cons_zero, Nat.add_zero] at c0
    obtain ⟨g', o', e1, c1⟩ := natsV_at RW.out (i := 1) (by simp)
    cases e1
    simp only [List.getElem_cons_zero, List.getElem_cons_succ] at c1
    obtain ⟨g', o', e1, c2⟩ := natsV_at RW.out (i := 2) (by simp)
    cases e1
    simp only [List.getElem_cons_zero, List.getElem_cons_succ] at c2
    obtain ⟨g', o', e1, c3⟩ := natsV_at RW.out (i := 3) (by simp)
    cases e1
    simp only [List.getElem_cons_zero, List.getElem_cons_succ] at c3
    obtain ⟨g', o', e1, c4⟩ := natsV_at RW.out (i := 4) (by simp)
    cases e1
    simp only [List.getElem_cons_zero, List.getElem_cons_succ] at c4
    simp only [List.length_cons, List.length_nil]
    clear RW
    go_enter Tryd.func39, Tryd.ntmps39
    go_wp2_with fail
    (try rw [Exit.noGoto_ret])
    change bodyPost _ _ _ _ _ _
    simp [bodyPost, results, Tryd.results39, go_sem, *]
    exact ⟨rfl, (by repeat (first | with_reducible exact Ext.refl _ | with_reducible apply Ext.drew | with_reducible apply Ext.drewN | with_reducible apply Ext.alloc | ((with_reducible refine Ext.setCell ?_ ?_ _); rotate_left; focus (first | (simp; done) | (simp; omega) | omega)) | with_reducible refine Ext.tr ?_ x1 | with_reducible refine Ext.tr ?_ hx | with_reducible assumption))⟩
  · obtain rfl : ns = [] := List.eq_nil_of_length_eq_zero hl
    simp only [List.length_nil]
    clear RW
    go_enter Tryd.func39, Tryd.ntmps39
    go_wp2_with fail
    (try rw [Exit.noGoto_ret])
    change bodyPost _ _ _ _ _ _
    simp [bodyPost, results, Tryd.results39, go_sem, *]
    exact ⟨rfl, (by repeat (first | with_reducible exact Ext.refl _ | with_reducible apply Ext.drew | with_reducible apply Ext.drewN | with_reducible apply Ext.alloc | ((with_reducible refine Ext.setCell ?_ ?_ _); rotate_left; focus (first | (simp; done) | (simp; omega) | omega)) | with_reducible refine Ext.tr ?_ x1 | with_reducible refine Ext.tr ?_ hx | with_reducible assumption))⟩
  · obtain rfl : ns = [] := List.eq_nil_of_length_eq_zero hl
    simp only [List.length_nil]
    clear RW
    go_enter Tryd.func39, Tryd.ntmps39
    go_wp2_with fail
    (try rw [Exit.noGoto_ret])
    change bodyPost _ _ _ _ _ _
    simp [bodyPost, results, Tryd.results39, go_sem, *]
    exact ⟨rfl, (by repeat (first | with_reducible exact Ext.refl _ | with_reducible apply Ext.drew | with_reducible apply Ext.drewN | with_reducible apply Ext.alloc | ((with_reducible refine Ext.setCell ?_ ?_ _); rotate_left; focus (first | (simp; done) | (simp; omega) | omega)) | with_reducible refine Ext.tr ?_ x1 | with_reducible refine Ext.tr ?_ hx | with_reducible assumption))⟩
  · obtain rfl : ns = [] := List.eq_nil_of_length_eq_zero hl
    simp only [List.length_nil]
    clear RW
    go_enter Tryd.func39, Tryd.ntmps39
    go_wp2_with fail
    (try rw [Exit.noGoto_ret])
    change bodyPost _ _ _ _ _ _
    simp [bodyPost, results, Tryd.results39, go_sem, *]
    exact ⟨rfl, (by repeat (first | with_reducible exact Ext.refl _ | with_reducible apply Ext.drew | with_reducible apply Ext.drewN | with_reducible apply Ext.alloc | ((with_reducible refine Ext.setCell ?_ ?_ _); rotate_left; focus (first | (simp; done) | (simp; omega) | omega)) | with_reducible refine Ext.tr ?_ x1 | with_reducible refine Ext.tr ?_ hx | with_reducible assumption))⟩
  · obtain rfl : ns = [] := List.eq_nil_of_length_eq_zero hl
    simp only [List.length_nil]
    clear RW
    go_enter Tryd.func39, Tryd.ntmps39
    go_wp2_with fail
    (try rw [Exit.noGoto_ret])
    change bodyPost _ _ _ _ _ _
    simp [bodyPost, results, Tryd.results39, go_sem, *]
    exact ⟨rfl, (by repeat (first | with_reducible exact Ext.refl _ | with_reducible apply Ext.drew | with_reducible apply Ext.drewN | with_reducible apply Ext.alloc | ((with_reducible refine Ext.setCell ?_ ?_ _); rotate_left; focus (first | (simp; done) | (simp; omega) | omega)) | with_reducible refine Ext.tr ?_ x1 | with_reducible refine Ext.tr ?_ hx | with_reducible assumption))⟩
  · obtain ⟨n0, rfl⟩ : ∃ n0, ns = [n0] := by
      match ns, hl with
      | [n0], _ => exact ⟨_, rfl⟩
    obtain ⟨g, o, rfl, c0⟩ := natsV_at RW.out (i := 0) (by simp)
    have z0 := cell_lt c0
    simp only at z0
    simp only [List.getElem_cons_zero, Nat.add_zero] at c0
    simp only [List.length_cons, List.length_nil]
    clear RW
    go_enter Tryd.func39, Tryd.ntmps39
    go_wp2_with fail
    (try rw [Exit.noGoto_ret])
    change bodyPost _ _ _ _ _ _
    simp [bodyPost, results, Tryd.results39, go_sem, *]
    exact ⟨rfl, (by repeat (first | with_reducible exact Ext.refl _ | with_reducible apply Ext.drew | with_reducible apply Ext.drewN | with_reducible apply Ext.alloc | ((with_reducible refine Ext.setCell ?_ ?_ _); rotate_left; focus (first | (simp; done) | (simp; omega) | omega)) | with_reducible refine Ext.tr ?_ x1 | with_reducible refine Ext.tr ?_ hx | with_reducible assumption))⟩
  · obtain ⟨n0, rfl⟩ : ∃ n0, ns = [n0] := by
      match ns, hl with
      | [n0], _ => exact ⟨_, rfl⟩
    obtain ⟨g, o, rfl, c0⟩ := natsV_at RW.out (i := 0) (by simp)
    have z0 := cell_lt c0
    simp only at z0
    simp only [List.getElem_cons_zero, Nat.add_zero] at c0
    simp only [List.length_cons, List.length_nil]
    clear RW
    go_enter Tryd.func39, Tryd.ntmps39
    go_wp2_with fail
    (try rw [Exit.noGoto_ret])
    change bodyPost _ _ _ _ _ _
    simp [bodyPost, results, Tryd.results39, go_sem, *]
    exact ⟨rfl, (by repeat (first | with_reducible exact Ext.refl _ | with_reducible apply Ext.drew | with_reducible apply Ext.drewN | with_reducible apply Ext.alloc | ((with_reducible refine Ext.setCell ?_ ?_ _); rotate_left; focus (first | (simp; done) | (simp; omega) | omega)) | with_reducible refine Ext.tr ?_ x1 | with_reducible refine Ext.tr ?_ hx | with_reducible assumption))⟩
  · obtain ⟨n0, rfl⟩ : ∃ n0, ns = [n0] := by
      match ns, hl with
      | [n0], _ => exact ⟨_, rfl⟩
    obtain ⟨g, o, rfl, c0⟩ := natsV_at RW.out (i := 0) (by simp)
    have z0 := cell_lt c0
    simp only at z0
    simp only [List.getElem_cons_zero, Nat.add_zero] at c0
    simp only [List.length_cons, List.length_nil]
    clear RW
    go_enter Tryd.func39, Tryd.ntmps39
    go_wp2_with fail
    (try rw [Exit.noGoto_ret])
    change bodyPost _ _ _ _ _ _
    simp [bodyPost, results, Tryd.results39, go_sem, *]
    exact ⟨rfl, (by repeat (first | with_reducible exact Ext.refl _ | with_reducible apply Ext.drew | with_reducible apply Ext.drewN | with_reducible apply Ext.alloc | ((with_reducible refine Ext.setCell ?_ ?_ _); rotate_left; focus (first | (simp; done) | (simp; omega) | omega)) | with_reducible refine Ext.tr ?_ x1 | with_reducible refine Ext.tr ?_ hx | with_reducible assumption))⟩
  · obtain rfl : ns = [] := List.eq_nil_of_length_eq_zero hl
    simp only [List.length_nil]
    clear RW
    go_enter Tryd.func39, Tryd.ntmps39
    go_wp2_with fail
    (try rw [Exit.noGoto_ret])
    change bodyPost _ _ _ _ _ _
    simp [bodyPost, results, Tryd.results39, go_sem, *]
    exact ⟨rfl, (by repeat (first | with_reducible exact Ext.refl _ | with_reducible apply Ext.drew | with_reducible apply Ext.drewN | with_reducible apply Ext.alloc | ((with_reducible refine Ext.setCell ?_ ?_ _); rotate_left; focus (first | (simp; done) | (simp; omega) | omega)) | with_reducible refine Ext.tr ?_ x1 | with_reducible refine Ext.tr ?_ hx | with_reducible assumption))⟩
  · obtain ⟨n0, n1, rfl⟩ : ∃ n0 n1, ns = [n0, n1] := by
      match ns, hl with
      | [n0, n1], _ => exact ⟨_, _, rfl⟩
    obtain ⟨g, o, rfl, c0⟩ := natsV_at RW.out (i := 0) (by simp)
    have z0 := cell_lt c0
    simp only at z0
    simp only [List.getElem_cons_zero, Nat.add_zero] at c0
    obtain ⟨g', o', e1, c1⟩ := natsV_at RW.out (i := 1) (by simp)
    cases e1
    simp only [List.getElem_cons_zero, List.getElem_cons_succ] at c1
    simp only [List.length_cons, List.length_nil]
    clear RW
    go_enter Tryd.func39, Tryd.ntmps39
    go_wp2_with fail
    (try rw [Exit.noGoto_ret])
    change bodyPost _ _ _ _ _ _
    simp [bodyPost, results, Tryd.results39, go_sem, *]
    exact ⟨rfl, (by repeat (first | with_reducible exact Ext.refl _ | with_reducible apply Ext.drew | with_reducible apply Ext.drewN | with_reducible apply Ext.alloc | ((with_reducible refine Ext.setCell ?_ ?_ _); rotate_left; focus (first | (simp; done) | (simp; omega) | omega)) | with_reducible refine Ext.tr ?_ x1 | with_reducible refine Ext.tr ?_ hx | with_reducible assumption))⟩
  · obtain ⟨n0, n1, rfl⟩ : ∃ n0 n1, ns = [n0, n1] := by
      match ns, hl with
      | [n0, n1], _ => exact ⟨_, _, rfl⟩
    obtain ⟨g, o, rfl, c0⟩ := natsV_at RW.out (i := 0) (by simp)
    have z0 := cell_lt c0
    simp only at z0
    simp only [List.getElem_cons_zero, Nat.add_zero] at c0
    obtain ⟨g', o', e1, c1⟩ := natsV_at RW.out (i := 1) (by simp)
    cases e1
    simp only [List.getElem_cons_zero, List.getElem_cons_succ] at c1
    simp only [List.length_cons, List.length_nil]
    clear RW
    go_enter Tryd.func39, Tryd.ntmps39
    go_wp2_with fail
    (try rw [Exit.noGoto_ret])
    change bodyPost _ _ _ _ _ _
    simp [bodyPost, results, Tryd.results39, go_sem, *]
    exact ⟨rfl, (by repeat (first | with_reducible exact Ext.refl _ | with_reducible apply Ext.drew | with_reducible apply Ext.drewN | with_reducible apply Ext.alloc | ((with_reducible refine Ext.setCell ?_ ?_ _); rotate_left; focus (first | (simp; done) | (simp; omega) | omega)) | with_reducible refine Ext.tr ?_ x1 | with_reducible refine Ext.tr ?_ hx | with_reducible assumption))⟩
  · obtain rfl : ns = [] := List.eq_nil_of_length_eq_zero hl
    simp only [List.length_nil]
    clear RW
    go_enter Tryd.func39, Tryd.ntmps39
    go_wp2_with fail
    (try rw [Exit.noGoto_ret])
    change bodyPost _ _ _ _ _ _
    simp [bodyPost, results, Tryd.results39, go_sem, *]
    exact ⟨rfl, (by repeat (first | with_reducible exact Ext.refl _ | with_reducible apply Ext.drew | with_reducible apply Ext.drewN | with_reducible apply Ext.alloc | ((with_reducible refine Ext.setCell ?_ ?_ _); rotate_left; focus (first | (simp; done) | (simp; omega) | omega)) | with_reducible refine Ext.tr ?_ x1 | with_reducible refine Ext.tr ?_ hx | with_reducible assumption))⟩
end Go.Proofs.YtgokenbojppnhaaDoor
namespace Go.Proofs.YtgokenbojppnhaaDoor
open Go.RowKit
theorem lows_cases (k j : Nat) : (k = 7 ∧ lowK k j = 0 ∧ highK k = 99) ∨ (k = 2 ∧ j = 4 ∧ lowK k j = 0 ∧ highK k = 4096) ∨ (k = 2 ∧ j ≠ 4 ∧ lowK k j = 1 ∧ highK k = 4096) ∨ (k ≠ 2 ∧ k ≠ 7 ∧ lowK k j = 1 ∧ highK k = 4096) := by
  unfold lowK highK
  by_cases h7 : k = 7
  · exact .inl ⟨h7, by simp [h7], by simp [h7]⟩
  · by_cases h2 : k = 2
    · by_cases h4 : j = 4
      · exact .inr (.inl ⟨h2, h4, by simp [h2, h4], by simp [h7]⟩)
      · exact .inr (.inr (.inl ⟨h2, h4, by simp [h2, h4], by simp [h7]⟩))
    · exact .inr (.inr (.inr ⟨h2, h7, by simp [h2, h7], by simp [h7]⟩))
set_option maxHeartbeats 4000000 in
theorem fitsR_any (k : Nat) (hk : k ≤ 13) {v : Value} {ns : List Nat} {w : World} (h : RowV w v (natsV ns)) (_hn : ns.length ≤ 100000) :
    Calls Tryd.prog 37 #[.int .i64 k, v] w fun e w' => e = .returned (.bool (fitsK k ns)) ∧ Ext w w' := by
  have RW := Lib.hid h
  obtain ⟨a, cap, rfl, -, -, -⟩ := h
  have hln : (natsV ns).length = ns.length := by simp [natsV]
  rw [hln] at RW ⊢
  have NU := Lib.hid (fun u => numbersR_any k hk (LayF.kind0 k) (.slice none 0 0) rfl u)
  simp only [layA, LayF.kind0, LayF.zero] at NU
  have wk : (placesK k).length ≤ 5 := places_len k
  clear hln
  by_cases hl : ns.length = (placesK k).length
  · have FF := Lib.hid (show fitsK k ns = fitsFrom k 0 ns by unfold fitsK; rw [decide_eq_true hl, Bool.true_and])
    obtain ⟨B, hB⟩ : ∃ B, fitsK k ns = B := ⟨_, rfl⟩
    rw [hB] at FF ⊢
    have hlz : ((ns.length : Int) != ((placesK k).length : Int)) = false := by simp; omega
    clear hB
    go_enter Tryd.func37, Tryd.ntmps37
    go_wp2_with fail
    refine (NU.out _).mono ?_
    rintro e w1 ⟨v1, rfl, x1, own⟩
    obtain ⟨a1, c1, rfl⟩ := own_form0 own
    clear NU own
    go_wp2_with fail
    go_loopw [5, 6, 7] (fun i _lo _hi wr => ∃ j : Nat, j ≤ ns.length ∧ i = .int .i64 j ∧ B = fitsFrom k j (ns.drop j) ∧ wr = w1) (fun i _ _ _ => ns.length - (intOf i).toNat)
    case atStart => exact ⟨0, Nat.zero_le _, rfl, FF.out, rfl⟩
    case round =>
      obtain ⟨j, hj, rfl, hB, hwr⟩ := hrel
      subst hwr
      have HB := Lib.hid hB
      clear hB FF
      rcases Nat.lt_or_ge j ns.length with hlt | hge
      · have hjz : (j : Int) < (ns.length : Int) := by omega
        obtain ⟨g, o, rfl, c0⟩ := natsV_at RW.out hlt
        have kc := x1.cell c0
        have zc := cell_lt kc
        simp only at zc
        have DR := Lib.hid (List.drop_eq_getElem_cons hlt)
        have LC := lows_cases k j
        have FS := Lib.hid (show B = (decide (lowK k j ≤ (ns[j] : Int) ∧ (ns[j] : Int) ≤ highK k) && fitsFrom k (j + 1) (ns.drop (j + 1))) by rw [HB.out, DR.out]; rfl)
        clear c0 DR HB
        generalize ns[j] = n at *
        rcases LC with ⟨h1, h3, h4⟩ | ⟨h1, h2, h3, h4⟩ | ⟨h1, h2, h3, h4⟩ | ⟨h1, h2, h3, h4⟩
        · subst h1
          rw [h3, h4] at FS
          have n0 : ¬ (n : Int) < 0 := by omega
          by_cases hh : (99 : Int) < (n : Int)
          · obtain rfl : B = false := by rw [FS.out, decide_eq_false (by omega)]; rfl
            clear FS h3 h4
            go_wp2
            go_ret
            exact ⟨rfl, x1⟩
          · have FS2 := Lib.hid (show B = fitsFrom 7 (j + 1) (ns.drop (j + 1)) by rw [FS.out, decide_eq_true (by omega)]; rfl)
            clear FS h3 h4
            go_wp2_with fail
            exact ⟨⟨j + 1, by omega, by go_num, FS2.out, trivial⟩, by simp [intOf]; omega⟩
        · subst h1
          subst h2
          rw [h3, h4] at FS
          have n0 : ¬ (n : Int) < 0 := by omega
          by_cases hh : (4096 : Int) < (n : Int)
          · obtain rfl : B = false := by rw [FS.out, decide_eq_false (by omega)]; rfl
            clear FS h3 h4
            go_wp2
            go_ret
            exact ⟨rfl, x1⟩
          · have FS2 := Lib.hid (show B = fitsFrom 2 (4 + 1) (ns.drop (4 + 1)) by rw [FS.out, decide_eq_true (by omega)]; rfl)
            clear FS h3 h4
            go_wp2_with fail
            exact ⟨⟨4 + 1, by omega, by go_num, FS2.out, trivial⟩, by simp [intOf]; omega⟩
        · subst h1
          rw [h3, h4] at FS
          have j4 : ((j : Int) == 4) = false := by simp; omega
          by_cases h0 : (n : Int) < 1
          · obtain rfl : B = false := by rw [FS.out, decide_eq_false (by omega)]; rfl
            clear FS h3 h4
            go_wp2
            go_ret
            exact ⟨rfl, x1⟩
          · by_cases hh : (4096 : Int) < (n : Int)
            · obtain rfl : B = false := by rw [FS.out, decide_eq_false (by omega)]; rfl
              clear FS h3 h4
              go_wp2
              go_ret
              exact ⟨rfl, x1⟩
            · have FS2 := Lib.hid (show B = fitsFrom 2 (j + 1) (ns.drop (j + 1)) by rw [FS.out, decide_eq_true (by omega)]; rfl)
              clear FS h3 h4
              go_wp2_with fail
              exact ⟨⟨j + 1, by omega, by go_num, FS2.out, trivial⟩, by simp [intOf]; omega⟩
        · rw [h3, h4] at FS
          have k2 : ((k : Int) == 2) = false := by simp; omega
          have k7 : ((k : Int) == 7) = false := by simp; omega
          by_cases h0 : (n : Int) < 1
          · obtain rfl : B = false := by rw [FS.out, decide_eq_false (by omega)]; rfl
            clear FS h3 h4
            go_wp2
            go_ret
            exact ⟨rfl, x1⟩
          · by_cases hh : (4096 : Int) < (n : Int)
            · obtain rfl : B = false := by rw [FS.out, decide_eq_false (by omega)]; rfl
              clear FS h3 h4
              go_wp2
              go_ret
              exact ⟨rfl, x1⟩
            · have FS2 := Lib.hid (show B = fitsFrom k (j + 1) (ns.drop (j + 1)) by rw [FS.out, decide_eq_true (by omega)]; rfl)
              clear FS h3 h4
              go_wp2_with fail
              exact ⟨⟨j + 1, by omega, by go_num, FS2.out, trivial⟩, by simp [intOf]; omega⟩
      · have hjz : ¬ (j : Int) < (ns.length : Int) := by omega
        obtain rfl : B = true := by rw [HB.out, List.drop_of_length_le hge]; rfl
        clear HB
        go_wp2
        go_ret
        exact ⟨rfl, x1⟩
  · have hlz : ((ns.length : Int) != ((placesK k).length : Int)) = true := by simp; omega
    rw [show fitsK k ns = false by unfold fitsK; rw [decide_eq_false hl, Bool.false_and]]
    go_enter Tryd.func37, Tryd.ntmps37
    go_wp2_with fail
    refine (NU.out _).mono ?_
    rintro e w1 ⟨v1, rfl, x1, own⟩
    obtain ⟨a1, c1, rfl⟩ := own_form0 own
    clear NU own
    go_wp2
    go_ret
    exact ⟨rfl, x1⟩
end Go.Proofs.YtgokenbojppnhaaDoor
namespace Go.Proofs.YtgokenbojppnhaaDoor
open Go.RowKit
/-- Numbers, as a row's values. -/
def intsV (ns : List Int) : List Value := ns.map (Value.int .i64)
theorem intsV_at {w : World} {a : Option Addr} {n c : Nat} {ns : List Int} (h : RowV w (.slice a n c) (intsV ns)) {i : Nat} (hi : i < ns.length) : ∃ g o, a = some ⟨g, o, none⟩ ∧ w.cell? ⟨g, o + i, none⟩ = some (.int .i64 ns[i]) := by
  obtain ⟨a', c', e, -, -, h3⟩ := h
  injection e with e1 _ _
  subst e1
  obtain ⟨g, o, rfl, hc⟩ := h3 (by intro e; have := congrArg List.length e; simp [intsV] at this; subst this; simp at hi)
  exact ⟨g, o, rfl, (hc i (by simpa [intsV] using hi)).trans (by simp [intsV, hi])⟩
def fitsFromI (k : Nat) : Nat → List Int → Bool
  | _, [] => true
  | j, n :: ns => decide (lowK k j ≤ n ∧ n ≤ highK k) && fitsFromI k (j + 1) ns
def fitsI (k : Nat) (ns : List Int) : Bool := decide (ns.length = (placesK k).length) && fitsFromI k 0 ns
def setAllI : LayF → List Nat → List Int → LayF
  | f, p :: ps, n :: ns => setAllI (f.set p n) ps ns
  | f, _, _ => f
theorem fitsFromI_nat (k : Nat) : ∀ (ns : List Nat) (j : Nat), fitsFromI k j (ns.map (fun (n : Nat) => (n : Int))) = fitsFrom k j ns
  | [], j => rfl
  | n :: ns, j => by
    simp only [List.map_cons, fitsFromI, fitsFrom]
    rw [fitsFromI_nat k ns (j + 1)]
theorem setAllI_nat : ∀ (f : LayF) (ps ns : List Nat), setAllI f ps (ns.map (fun (n : Nat) => (n : Int))) = setAll f ps ns
  | f, [], ns => by cases ns <;> rfl
  | f, p :: ps, [] => rfl
  | f, p :: ps, n :: ns => by
    simp only [List.map_cons, setAllI, setAll]
    exact setAllI_nat _ ps ns
theorem set_from0 {f : LayF} (h : ∀ q, 0 ≤ f.at q) {x : Int} (hx : 0 ≤ x) (i q : Nat) : 0 ≤ (f.set i x).at q := by
  have h0 : 0 ≤ f.kind := h 0
  have h1 : 0 ≤ f.inn := h 1
  have h2 : 0 ≤ f.out := h 2
  have h3 : 0 ≤ f.size := h 3
  have h4 : 0 ≤ f.stride := h 4
  have h5 : 0 ≤ f.pad := h 5
  have h6 : 0 ≤ f.percent := h 6
  have h7 : 0 ≤ f.heads := h 7
  unfold LayF.set
  split <;> (unfold LayF.at; split <;> assumption)
theorem setAll_from0 : ∀ (ps ns : List Nat) {f : LayF}, (∀ q, 0 ≤ f.at q) → ∀ q, 0 ≤ (setAll f ps ns).at q
  | [], ns, f, h, q => by cases ns <;> exact h q
  | p :: ps, [], f, h, q => h q
  | p :: ps, n :: ns, f, h, q => by
    rw [setAll]
    exact setAll_from0 ps ns (fun q => set_from0 h (by omega) p q) q
theorem fitsFromI_low {k : Nat} : ∀ {ns : List Int} {j : Nat}, fitsFromI k j ns = true → ∀ n ∈ ns, 0 ≤ n
  | [], _, _, n, h => by simp at h
  | m :: ns, j, h, n, hn => by
    rw [fitsFromI, Bool.and_eq_true, decide_eq_true_eq] at h
    rcases List.mem_cons.1 hn with rfl | hn
    · have := h.1.1
      unfold lowK at this
      split at this <;> omega
    · exact fitsFromI_low h.2 n hn
/-- What the page asks of a layer's numbers is what the program asks. -/
theorem okF_int (k : Nat) (f : LayF) : (fitsI k ((placesK k).map f.at) && decide (setAllI (LayF.kind0 k) (placesK k) ((placesK k).map f.at) = f)) = okF k f := by
  by_cases h : ∀ p ∈ placesK k, 0 ≤ f.at p
  · have e : (placesK k).map f.at = (nsOf k f).map (fun (n : Nat) => (n : Int)) := by
      unfold nsOf
      rw [List.map_map]
      exact List.map_congr_left (fun p hp => by simp only [Function.comp]; have := h p hp; omega)
    rw [e, setAllI_nat]
    unfold okF fitsI fitsK
    rw [fitsFromI_nat, List.length_map]
    congr 1
    exact decide_eq_decide.2 eq_comm
  · have h1 : okF k f = false := by
      cases hk : okF k f with
      | false => rfl
      | true =>
        exfalso
        unfold okF at hk
        rw [Bool.and_eq_true, decide_eq_true_eq] at hk
        apply h
        intro p _
        rw [hk.2]
        refine setAll_from0 _ _ (fun q => ?_) p
        unfold LayF.kind0 LayF.zero LayF.at
        split <;> simp
    rw [h1]
    cases hf : fitsI k ((placesK k).map f.at) with
    | false => rfl
    | true =>
      exfalso
      unfold fitsI at hf
      rw [Bool.and_eq_true] at hf
      exact h (fun p hp => fitsFromI_low hf.2 _ (List.mem_map.2 ⟨p, hp, rfl⟩))
theorem kindT_is {k : Nat} (h1 : 1 ≤ k) (h2 : k ≤ 12) : kindT (k : Int) = some k := by
  have hh : k = 1 ∨ k = 2 ∨ k = 3 ∨ k = 4 ∨ k = 5 ∨ k = 6 ∨ k = 7 ∨ k = 8 ∨ k = 9 ∨ k = 10 ∨ k = 11 ∨ k = 12 := by omega
  rcases hh with rfl | rfl | rfl | rfl | rfl | rfl | rfl | rfl | rfl | rfl | rfl | rfl <;> rfl
theorem kindT_no {x : Int} (h : x < 1 ∨ 13 < x) : kindT x = none := by
  unfold kindT
  rw [List.find?_eq_none]
  intro k hk
  have : 1 ≤ k ∧ k ≤ 12 := by
    have h2 := (show ∀ k ∈ kindsT, 1 ≤ k ∧ k ≤ 12 by decide) k hk
    exact h2
  simp only [decide_eq_true_eq]
  omega
/-- A layer, as the page asks it. -/
theorem okL_kind (f : LayF) (b : List Lay) (deep k : Nat) (h1 : 1 ≤ k) (h2 : k ≤ 13) (hk : f.kind = k) :
    (Lay.mk f b).okL deep = (okF k f && (if k = 13 then decide (deep < 4) && okA (deep + 1) b else b.isEmpty)) := by
  rw [Lay.okL]
  by_cases h : k = 13
  · subst h
    rw [if_pos (by rw [hk]; rfl), if_pos rfl]
    have : okF 13 f = decide (f = LayF.kind0 13) := by
      unfold okF
      show (true && _) = _
      rw [Bool.true_and]
      rfl
    rw [this]
    cases decide (f = LayF.kind0 13) <;> simp
  · rw [if_neg (by rw [hk]; omega), if_neg h, hk, kindT_is h1 (by omega)]
theorem okL_no (f : LayF) (b : List Lay) (deep : Nat) (h : f.kind < 1 ∨ 13 < f.kind) : (Lay.mk f b).okL deep = false := by
  rw [Lay.okL, if_neg (by omega), kindT_no h]
end Go.Proofs.YtgokenbojppnhaaDoor
namespace Go.Proofs.YtgokenbojppnhaaDoor
open Go.RowKit
set_option maxHeartbeats 4000000 in
theorem fitsI_any (k : Nat) (hk : k ≤ 13) {v : Value} {ns : List Int} {w : World} (h : RowV w v (intsV ns)) (_hn : ns.length ≤ 100000) :
    Calls Tryd.prog 37 #[.int .i64 k, v] w fun e w' => e = .returned (.bool (fitsI k ns)) ∧ Ext w w' := by
  have RW := Lib.hid h
  obtain ⟨a, cap, rfl, -, -, -⟩ := h
  have hln : (intsV ns).length = ns.length := by simp [intsV]
  rw [hln] at RW ⊢
  have NU := Lib.hid (fun u => numbersR_any k hk (LayF.kind0 k) (.slice none 0 0) rfl u)
  simp only [layA, LayF.kind0, LayF.zero] at NU
  have wk : (placesK k).length ≤ 5 := places_len k
  clear hln
  by_cases hl : ns.length = (placesK k).length
  · have FF := Lib.hid (show fitsI k ns = fitsFromI k 0 ns by unfold fitsI; rw [decide_eq_true hl, Bool.true_and])
    obtain ⟨B, hB⟩ : ∃ B, fitsI k ns = B := ⟨_, rfl⟩
    rw [hB] at FF ⊢
    have hlz : ((ns.length : Int) != ((placesK k).length : Int)) = false := by simp; omega
    clear hB
    go_enter Tryd.func37, Tryd.ntmps37
    go_wp2_with fail
    refine (NU.out _).mono ?_
    rintro e w1 ⟨v1, rfl, x1, own⟩
    obtain ⟨a1, c1, rfl⟩ := own_form0 own
    clear NU own
    go_wp2_with fail
    go_loopw [5, 6, 7] (fun i _lo _hi wr => ∃ j : Nat, j ≤ ns.length ∧ i = .int .i64 j ∧ B = fitsFromI k j (ns.drop j) ∧ wr = w1) (fun i _ _ _ => ns.length - (intOf i).toNat)
    case atStart => exact ⟨0, Nat.zero_le _, rfl, FF.out, rfl⟩
    case round =>
      obtain ⟨j, hj, rfl, hB, hwr⟩ := hrel
      subst hwr
      have HB := Lib.hid hB
      clear hB FF
      rcases Nat.lt_or_ge j ns.length with hlt | hge
      · have hjz : (j : Int) < (ns.length : Int) := by omega
        obtain ⟨g, o, rfl, c0⟩ := intsV_at RW.out hlt
        have kc := x1.cell c0
        have zc := cell_lt kc
        simp only at zc
        have DR := Lib.hid (List.drop_eq_getElem_cons hlt)
        have LC := lows_cases k j
        have FS := Lib.hid (show B = (decide (lowK k j ≤ ns[j] ∧ ns[j] ≤ highK k) && fitsFromI k (j + 1) (ns.drop (j + 1))) by rw [HB.out, DR.out]; rfl)
        clear c0 DR HB
        generalize ns[j] = n at *
        rcases LC with ⟨h1, h3, h4⟩ | ⟨h1, h2, h3, h4⟩ | ⟨h1, h2, h3, h4⟩ | ⟨h1, h2, h3, h4⟩
        · subst h1
          rw [h3, h4] at FS
          by_cases n0 : n < 0
          · obtain rfl : B = false := by rw [FS.out, decide_eq_false (by omega)]; rfl
            clear FS h3 h4
            go_wp2
            go_ret
            exact ⟨rfl, x1⟩
          · skip
            by_cases hh : (99 : Int) < n
            · obtain rfl : B = false := by rw [FS.out, decide_eq_false (by omega)]; rfl
              clear FS h3 h4
              go_wp2
              go_ret
              exact ⟨rfl, x1⟩
            · have FS2 := Lib.hid (show B = fitsFromI 7 (j + 1) (ns.drop (j + 1)) by rw [FS.out, decide_eq_true (by omega)]; rfl)
              clear FS h3 h4
              go_wp2_with fail
              exact ⟨⟨j + 1, by omega, by go_num, FS2.out, trivial⟩, by simp [intOf]; omega⟩
        · subst h1
          subst h2
          rw [h3, h4] at FS
          by_cases n0 : n < 0
          · obtain rfl : B = false := by rw [FS.out, decide_eq_false (by omega)]; rfl
            clear FS h3 h4
            go_wp2
            go_ret
            exact ⟨rfl, x1⟩
          · skip
            by_cases hh : (4096 : Int) < n
            · obtain rfl : B = false := by rw [FS.out, decide_eq_false (by omega)]; rfl
              clear FS h3 h4
              go_wp2
              go_ret
              exact ⟨rfl, x1⟩
            · have FS2 := Lib.hid (show B = fitsFromI 2 (4 + 1) (ns.drop (4 + 1)) by rw [FS.out, decide_eq_true (by omega)]; rfl)
              clear FS h3 h4
              go_wp2_with fail
              exact ⟨⟨4 + 1, by omega, by go_num, FS2.out, trivial⟩, by simp [intOf]; omega⟩
        · subst h1
          rw [h3, h4] at FS
          have j4 : ((j : Int) == 4) = false := by simp; omega
          by_cases h0 : n < 1
          · obtain rfl : B = false := by rw [FS.out, decide_eq_false (by omega)]; rfl
            clear FS h3 h4
            go_wp2
            go_ret
            exact ⟨rfl, x1⟩
          · by_cases hh : (4096 : Int) < n
            · obtain rfl : B = false := by rw [FS.out, decide_eq_false (by omega)]; rfl
              clear FS h3 h4
              go_wp2
              go_ret
              exact ⟨rfl, x1⟩
            · have FS2 := Lib.hid (show B = fitsFromI 2 (j + 1) (ns.drop (j + 1)) by rw [FS.out, decide_eq_true (by omega)]; rfl)
              clear FS h3 h4
              go_wp2_with fail
              exact ⟨⟨j + 1, by omega, by go_num, FS2.out, trivial⟩, by simp [intOf]; omega⟩
        · rw [h3, h4] at FS
          have k2 : ((k : Int) == 2) = false := by simp; omega
          have k7 : ((k : Int) == 7) = false := by simp; omega
          by_cases h0 : n < 1
          · obtain rfl : B = false := by rw [FS.out, decide_eq_false (by omega)]; rfl
            clear FS h3 h4
            go_wp2
            go_ret
            exact ⟨rfl, x1⟩
          · by_cases hh : (4096 : Int) < n
            · obtain rfl : B = false := by rw [FS.out, decide_eq_false (by omega)]; rfl
              clear FS h3 h4
              go_wp2
              go_ret
              exact ⟨rfl, x1⟩
            · have FS2 := Lib.hid (show B = fitsFromI k (j + 1) (ns.drop (j + 1)) by rw [FS.out, decide_eq_true (by omega)]; rfl)
              clear FS h3 h4
              go_wp2_with fail
              exact ⟨⟨j + 1, by omega, by go_num, FS2.out, trivial⟩, by simp [intOf]; omega⟩
      · have hjz : ¬ (j : Int) < (ns.length : Int) := by omega
        obtain rfl : B = true := by rw [HB.out, List.drop_of_length_le hge]; rfl
        clear HB
        go_wp2
        go_ret
        exact ⟨rfl, x1⟩
  · have hlz : ((ns.length : Int) != ((placesK k).length : Int)) = true := by simp; omega
    rw [show fitsI k ns = false by unfold fitsI; rw [decide_eq_false hl, Bool.false_and]]
    go_enter Tryd.func37, Tryd.ntmps37
    go_wp2_with fail
    refine (NU.out _).mono ?_
    rintro e w1 ⟨v1, rfl, x1, own⟩
    obtain ⟨a1, c1, rfl⟩ := own_form0 own
    clear NU own
    go_wp2
    go_ret
    exact ⟨rfl, x1⟩
set_option maxHeartbeats 4000000 in
theorem madeI_any (k : Nat) (hk1 : 1 ≤ k) (hk : k ≤ 13) {v : Value} {ns : List Int} {w : World} (h : RowV w v (intsV ns)) (hl : ns.length = (placesK k).length) :
    Calls Tryd.prog 39 #[.int .i64 k, v] w fun e w' => e = .returned (.agg (layA (setAllI (LayF.kind0 k) (placesK k) ns) (.slice none 0 0))) ∧ Ext w w' := by
  have RW := Lib.hid h
  obtain ⟨a, cap, rfl, -, -, -⟩ := h
  have hln : (intsV ns).length = ns.length := by simp [intsV]
  rw [hln] at RW ⊢
  clear hln
  have hh : k = 1 ∨ k = 2 ∨ k = 3 ∨ k = 4 ∨ k = 5 ∨ k = 6 ∨ k = 7 ∨ k = 8 ∨ k = 9 ∨ k = 10 ∨ k = 11 ∨ k = 12 ∨ k = 13 := by omega
  rcases hh with rfl | rfl | rfl | rfl | rfl | rfl | rfl | rfl | rfl | rfl | rfl | rfl | rfl
  · obtain ⟨n0, n1, rfl⟩ : ∃ n0 n1, ns = [n0, n1] := by
      match ns, hl with
      | [n0, n1], _ => exact ⟨_, _, rfl⟩
    obtain ⟨g, o, rfl, c0⟩ := intsV_at RW.out (i := 0) (by simp)
    have z0 := cell_lt c0
    simp only at z0
    simp only [List.getElem_cons_zero, Nat.add_zero] at c0
    obtain ⟨g', o', e1, c1⟩ := intsV_at RW.out (i := 1) (by simp)
    cases e1
    simp only [List.getElem_cons_zero, List.getElem_cons_succ] at c1
    simp only [List.length_cons, List.length_nil]
    clear RW
    go_enter Tryd.func39, Tryd.ntmps39
    go_wp2_with fail
    (try rw [Exit.noGoto_ret])
    change bodyPost _ _ _ _ _ _
    simp [bodyPost, results, Tryd.results39, go_sem, *]
    exact ⟨rfl, (by repeat (first | with_reducible exact Ext.refl _ | with_reducible apply Ext.drew | with_reducible apply Ext.drewN | with_reducible apply Ext.alloc | ((with_reducible refine Ext.setCell ?_ ?_ _); rotate_left; focus (first | (simp; done) | (simp; omega) | omega)) | with_reducible refine Ext.tr ?_ x1 | with_reducible refine Ext.tr ?_ hx | with_reducible assumption))⟩
  · obtain ⟨n0, n1, n2, n3, n4, rfl⟩ : ∃ n0 n1 n2 n3 n4, ns = [n0, n1, n2, n3, n4] := by
      match ns, hl with
      | [n0, n1, n2, n3, n4], _ => exact ⟨_, _, _, _, _, rfl⟩
    obtain ⟨g, o, rfl, c0⟩ := intsV_at RW.out (i := 0) (by simp)
    have z0 := cell_lt c0
    simp only at z0
    simp only [List.getElem_cons_zero, Nat.add_zero] at c0
    obtain ⟨g', o', e1, c1⟩ := intsV_at RW.out (i := 1) (by simp)
    cases e1
    simp only [List.getElem_cons_zero, List.getElem_cons_succ] at c1
    obtain ⟨g', o', e1, c2⟩ := intsV_at RW.out (i := 2) (by simp)
    cases e1
    simp only [List.getElem_cons_zero, List.getElem_cons_succ] at c2
    obtain ⟨g', o', e1, c3⟩ := intsV_at RW.out (i := 3) (by simp)
    cases e1
    simp only [List.getElem_cons_zero, List.getElem_cons_succ] at c3
    obtain ⟨g', o', e1, c4⟩ := intsV_at RW.out (i := 4) (by simp)
    cases e1
    simp only [List.getElem_cons_zero, List.getElem_cons_succ] at c4
    simp only [List.length_cons, List.length_nil]
    clear RW
    go_enter Tryd.func39, Tryd.ntmps39
    go_wp2_with fail
    (try rw [Exit.noGoto_ret])
    change bodyPost _ _ _ _ _ _
    simp [bodyPost, results, Tryd.results39, go_sem, *]
    exact ⟨rfl, (by repeat (first | with_reducible exact Ext.refl _ | with_reducible apply Ext.drew | with_reducible apply Ext.drewN | with_reducible apply Ext.alloc | ((with_reducible refine Ext.setCell ?_ ?_ _); rotate_left; focus (first | (simp; done) | (simp; omega) | omega)) | with_reducible refine Ext.tr ?_ x1 | with_reducible refine Ext.tr ?_ hx | with_reducible assumption))⟩
  · obtain rfl : ns = [] := List.eq_nil_of_length_eq_zero hl
    simp only [List.length_nil]
    clear RW
    go_enter Tryd.func39, Tryd.ntmps39
    go_wp2_with fail
    (try rw [Exit.noGoto_ret])
    change bodyPost _ _ _ _ _ _
    simp [bodyPost, results, Tryd.results39, go_sem, *]
    exact ⟨rfl, (by repeat (first | with_reducible exact Ext.refl _ | with_reducible apply Ext.drew | with_reducible apply Ext.drewN | with_reducible apply Ext.alloc | ((with_reducible refine Ext.setCell ?_ ?_ _); rotate_left; focus (first | (simp; done) | (simp; omega) | omega)) | with_reducible refine Ext.tr ?_ x1 | with_reducible refine Ext.tr ?_ hx | with_reducible assumption))⟩
  · obtain rfl : ns = [] := List.eq_nil_of_length_eq_zero hl
    simp only [List.length_nil]
    clear RW
    go_enter Tryd.func39, Tryd.ntmps39
    go_wp2_with fail
    (try rw [Exit.noGoto_ret])
    change bodyPost _ _ _ _ _ _
    simp [bodyPost, results, Tryd.results39, go_sem, *]
    exact ⟨rfl, (by repeat (first | with_reducible exact Ext.refl _ | with_reducible apply Ext.drew | with_reducible apply Ext.drewN | with_reducible apply Ext.alloc | ((with_reducible refine Ext.setCell ?_ ?_ _); rotate_left; focus (first | (simp; done) | (simp; omega) | omega)) | with_reducible refine Ext.tr ?_ x1 | with_reducible refine Ext.tr ?_ hx | with_reducible assumption))⟩
  · obtain rfl : ns = [] := List.eq_nil_of_length_eq_zero hl
    simp only [List.length_nil]
    clear RW
    go_enter Tryd.func39, Tryd.ntmps39
    go_wp2_with fail
    (try rw [Exit.noGoto_ret])
    change bodyPost _ _ _ _ _ _
    simp [bodyPost, results, Tryd.results39, go_sem, *]
    exact ⟨rfl, (by repeat (first | with_reducible exact Ext.refl _ | with_reducible apply Ext.drew | with_reducible apply Ext.drewN | with_reducible apply Ext.alloc | ((with_reducible refine Ext.setCell ?_ ?_ _); rotate_left; focus (first | (simp; done) | (simp; omega) | omega)) | with_reducible refine Ext.tr ?_ x1 | with_reducible refine Ext.tr ?_ hx | with_reducible assumption))⟩
  · obtain rfl : ns = [] := List.eq_nil_of_length_eq_zero hl
    simp only [List.length_nil]
    clear RW
    go_enter Tryd.func39, Tryd.ntmps39
    go_wp2_with fail
    (try rw [Exit.noGoto_ret])
    change bodyPost _ _ _ _ _ _
    simp [bodyPost, results, Tryd.results39, go_sem, *]
    exact ⟨rfl, (by repeat (first | with_reducible exact Ext.refl _ | with_reducible apply Ext.drew | with_reducible apply Ext.drewN | with_reducible apply Ext.alloc | ((with_reducible refine Ext.setCell ?_ ?_ _); rotate_left; focus (first | (simp; done) | (simp; omega) | omega)) | with_reducible refine Ext.tr ?_ x1 | with_reducible refine Ext.tr ?_ hx | with_reducible assumption))⟩
  · obtain ⟨n0, rfl⟩ : ∃ n0, ns = [n0] := by
      match ns, hl with
      | [n0], _ => exact ⟨_, rfl⟩
    obtain ⟨g, o, rfl, c0⟩ := intsV_at RW.out (i := 0) (by simp)
    have z0 := cell_lt c0
    simp only at z0
    simp only [List.getElem_cons_zero, Nat.add_zero] at c0
    simp only [List.length_cons, List.length_nil]
    clear RW
    go_enter Tryd.func39, Tryd.ntmps39
    go_wp2_with fail
    (try rw [Exit.noGoto_ret])
    change bodyPost _ _ _ _ _ _
    simp [bodyPost, results, Tryd.results39, go_sem, *]
    exact ⟨rfl, (by repeat (first | with_reducible exact Ext.refl _ | with_reducible apply Ext.drew | with_reducible apply Ext.drewN | with_reducible apply Ext.alloc | ((with_reducible refine Ext.setCell ?_ ?_ _); rotate_left; focus (first | (simp; done) | (simp; omega) | omega)) | with_reducible refine Ext.tr ?_ x1 | with_reducible refine Ext.tr ?_ hx | with_reducible assumption))⟩
  · obtain ⟨n0, rfl⟩ : ∃ n0, ns = [n0] := by
      match ns, hl with
      | [n0], _ => exact ⟨_, rfl⟩
    obtain ⟨g, o, rfl, c0⟩ := intsV_at RW.out (i := 0) (by simp)
    have z0 := cell_lt c0
    simp only at z0
    simp only [List.getElem_cons_zero, Nat.add_zero] at c0
    simp only [List.length_cons, List.length_nil]
    clear RW
    go_enter Tryd.func39, Tryd.ntmps39
    go_wp2_with fail
    (try rw [Exit.noGoto_ret])
    change bodyPost _ _ _ _ _ _
    simp [bodyPost, results, Tryd.results39, go_sem, *]
    exact ⟨rfl, (by repeat (first | with_reducible exact Ext.refl _ | with_reducible apply Ext.drew | with_reducible apply Ext.drewN | with_reducible apply Ext.alloc | ((with_reducible refine Ext.setCell ?_ ?_ _); rotate_left; focus (first | (simp; done) | (simp; omega) | omega)) | with_reducible refine Ext.tr ?_ x1 | with_reducible refine Ext.tr ?_ hx | with_reducible assumption))⟩
  · obtain ⟨n0, rfl⟩ : ∃ n0, ns = [n0] := by
      match ns, hl with
      | [n0], _ => exact ⟨_, rfl⟩
    obtain ⟨g, o, rfl, c0⟩ := intsV_at RW.out (i := 0) (by simp)
    have z0 := cell_lt c0
    simp only at z0
    simp only [List.getElem_cons_zero, Nat.add_zero] at c0
    simp only [List.length_cons, List.length_nil]
    clear RW
    go_enter Tryd.func39, Tryd.ntmps39
    go_wp2_with fail
    (try rw [Exit.noGoto_ret])
    change bodyPost _ _ _ _ _ _
    simp [bodyPost, results, Tryd.results39, go_sem, *]
    exact ⟨rfl, (by repeat (first | with_reducible exact Ext.refl _ | with_reducible apply Ext.drew | with_reducible apply Ext.drewN | with_reducible apply Ext.alloc | ((with_reducible refine Ext.setCell ?_ ?_ _); rotate_left; focus (first | (simp; done) | (simp; omega) | omega)) | with_reducible refine Ext.tr ?_ x1 | with_reducible refine Ext.tr ?_ hx | with_reducible assumption))⟩
  · obtain rfl : ns = [] := List.eq_nil_of_length_eq_zero hl
    simp only [List.length_nil]
    clear RW
    go_enter Tryd.func39, Tryd.ntmps39
    go_wp2_with fail
    (try rw [Exit.noGoto_ret])
    change bodyPost _ _ _ _ _ _
    simp [bodyPost, results, Tryd.results39, go_sem, *]
    exact ⟨rfl, (by repeat (first | with_reducible exact Ext.refl _ | with_reducible apply Ext.drew | with_reducible apply Ext.drewN | with_reducible apply Ext.alloc | ((with_reducible refine Ext.setCell ?_ ?_ _); rotate_left; focus (first | (simp; done) | (simp; omega) | omega)) | with_reducible refine Ext.tr ?_ x1 | with_reducible refine Ext.tr ?_ hx | with_reducible assumption))⟩
  · obtain ⟨n0, n1, rfl⟩ : ∃ n0 n1, ns = [n0, n1] := by
      match ns, hl with
      | [n0, n1], _ => exact ⟨_, _, rfl⟩
    obtain ⟨g, o, rfl, c0⟩ := intsV_at RW.out (i := 0) (by simp)
    have z0 := cell_lt c0
    simp only at z0
    simp only [List.getElem_cons_zero, Nat.add_zero] at c0
    obtain ⟨g', o', e1, c1⟩ := intsV_at RW.out (i := 1) (by simp)
    cases e1
    simp only [List.getElem_cons_zero, List.getElem_cons_succ] at c1
    simp only [List.length_cons, List.length_nil]
    clear RW
    go_enter Tryd.func39, Tryd.ntmps39
    go_wp2_with fail
    (try rw [Exit.noGoto_ret])
    change bodyPost _ _ _ _ _ _
    simp [bodyPost, results, Tryd.results39, go_sem, *]
    exact ⟨rfl, (by repeat (first | with_reducible exact Ext.refl _ | with_reducible apply Ext.drew | with_reducible apply Ext.drewN | with_reducible apply Ext.alloc | ((with_reducible refine Ext.setCell ?_ ?_ _); rotate_left; focus (first | (simp; done) | (simp; omega) | omega)) | with_reducible refine Ext.tr ?_ x1 | with_reducible refine Ext.tr ?_ hx | with_reducible assumption))⟩
  · obtain ⟨n0, n1, rfl⟩ : ∃ n0 n1, ns = [n0, n1] := by
      match ns, hl with
      | [n0, n1], _ => exact ⟨_, _, rfl⟩
    obtain ⟨g, o, rfl, c0⟩ := intsV_at RW.out (i := 0) (by simp)
    have z0 := cell_lt c0
    simp only at z0
    simp only [List.getElem_cons_zero, Nat.add_zero] at c0
    obtain ⟨g', o', e1, c1⟩ := intsV_at RW.out (i := 1) (by simp)
    cases e1
    simp only [List.getElem_cons_zero, List.getElem_cons_succ] at c1
    simp only [List.length_cons, List.length_nil]
    clear RW
    go_enter Tryd.func39, Tryd.ntmps39
    go_wp2_with fail
    (try rw [Exit.noGoto_ret])
    change bodyPost _ _ _ _ _ _
    simp [bodyPost, results, Tryd.results39, go_sem, *]
    exact ⟨rfl, (by repeat (first | with_reducible exact Ext.refl _ | with_reducible apply Ext.drew | with_reducible apply Ext.drewN | with_reducible apply Ext.alloc | ((with_reducible refine Ext.setCell ?_ ?_ _); rotate_left; focus (first | (simp; done) | (simp; omega) | omega)) | with_reducible refine Ext.tr ?_ x1 | with_reducible refine Ext.tr ?_ hx | with_reducible assumption))⟩
  · obtain rfl : ns = [] := List.eq_nil_of_length_eq_zero hl
    simp only [List.length_nil]
    clear RW
    go_enter Tryd.func39, Tryd.ntmps39
    go_wp2_with fail
    (try rw [Exit.noGoto_ret])
    change bodyPost _ _ _ _ _ _
    simp [bodyPost, results, Tryd.results39, go_sem, *]
    exact ⟨rfl, (by repeat (first | with_reducible exact Ext.refl _ | with_reducible apply Ext.drew | with_reducible apply Ext.drewN | with_reducible apply Ext.alloc | ((with_reducible refine Ext.setCell ?_ ?_ _); rotate_left; focus (first | (simp; done) | (simp; omega) | omega)) | with_reducible refine Ext.tr ?_ x1 | with_reducible refine Ext.tr ?_ hx | with_reducible assumption))⟩
theorem nameR_no (x : Int) (h : x < 1 ∨ 13 < x) (w : World) : Calls Tryd.prog 36 #[.int .i64 x] w fun e w' => e = .returned (.string ⟨#[]⟩) ∧ w = w' := by
  have n1 : (x == 1) = false := by simp; omega
  have n2 : (x == 2) = false := by simp; omega
  have n3 : (x == 3) = false := by simp; omega
  have n4 : (x == 4) = false := by simp; omega
  have n5 : (x == 5) = false := by simp; omega
  have n6 : (x == 6) = false := by simp; omega
  have n7 : (x == 7) = false := by simp; omega
  have n8 : (x == 8) = false := by simp; omega
  have n9 : (x == 9) = false := by simp; omega
  have n10 : (x == 10) = false := by simp; omega
  have n11 : (x == 11) = false := by simp; omega
  have n12 : (x == 12) = false := by simp; omega
  have n13 : (x == 13) = false := by simp; omega
  clear h
  go_enter Tryd.func36, Tryd.ntmps36
  go_wp2
  go_ret
  exact ⟨rfl, rfl⟩
end Go.Proofs.YtgokenbojppnhaaDoor
