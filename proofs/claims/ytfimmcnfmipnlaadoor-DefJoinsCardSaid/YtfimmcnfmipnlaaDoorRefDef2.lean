/- Package ratchetref26: numbers, made, fits. -/
import Derived.Test.YtfimmcnfmipnlaaDoorRefDef1
namespace Go.Proofs.YtfimmcnfmipnlaaDoor
open Go.RowKit
theorem Blk.new' {w : World} {t : TypeId} {cs : Array Value} {n : Nat} (h : w.heap.size = n) : Blk (w.alloc (.cells cs t)) n t cs := by
  subst h; exact Blk.new w t cs
set_option maxHeartbeats 1000000 in
theorem numbersR_any (k : Nat) (hk : k ≤ 13) (f : LayF) (bv : Value) (hkf : f.kind = k) (w : World) :
    Calls Tryd.prog 31 #[.agg (layA f bv)] w fun e w' => ∃ v, e = .returned v ∧ Ext w w' ∧ w'.ownsRow w.heap.size 3 1 v (placesK k).length ((placesK k).map (fun p => Value.int .i64 (f.at p))) := by
  obtain ⟨fk, fi, fo, fs, ft, fp, fc, fh⟩ := f
  simp only at hkf
  subst hkf
  have hh : k = 0 ∨ k = 1 ∨ k = 2 ∨ k = 3 ∨ k = 4 ∨ k = 5 ∨ k = 6 ∨ k = 7 ∨ k = 8 ∨ k = 9 ∨ k = 10 ∨ k = 11 ∨ k = 12 ∨ k = 13 := by omega
  simp only [layA]
  rcases hh with rfl | rfl | rfl | rfl | rfl | rfl | rfl | rfl | rfl | rfl | rfl | rfl | rfl | rfl
  all_goals
    go_enter Tryd.func31, Tryd.ntmps31
    go_wp2
    go_ret
    refine ⟨_, rfl, (by repeat (first | with_reducible exact Ext.refl _ | with_reducible apply Ext.drew | with_reducible apply Ext.drewN | with_reducible apply Ext.alloc | ((with_reducible refine Ext.setCell ?_ ?_ _); rotate_left; focus (first | (simp; done) | (simp; omega) | omega)) | with_reducible assumption)), ?_⟩
    first
      | exact ⟨rfl, .inl ⟨rfl, rfl⟩⟩
      | exact ⟨rfl, .inr ⟨_, _, _, rfl, by simp, Blk.new' (by simp), Nat.le_refl _, by simp [maxLen], rfl, by simp [placesK, LayF.at]⟩⟩
/-- Numbers, as a row's values. -/
def natsV (ns : List Nat) : List Value := ns.map (fun (n : Nat) => Value.int .i64 (n : Int))
theorem natsV_at {w : World} {a : Option Addr} {n c : Nat} {ns : List Nat} (h : RowV w (.slice a n c) (natsV ns)) {i : Nat} (hi : i < ns.length) : ∃ g o, a = some ⟨g, o, none⟩ ∧ w.cell? ⟨g, o + i, none⟩ = some (.int .i64 (ns[i] : Int)) := by
  obtain ⟨a', c', e, -, -, h3⟩ := h
  injection e with e1 _ _
  subst e1
  obtain ⟨g, o, rfl, hc⟩ := h3 (by intro e; have := congrArg List.length e; simp [natsV] at this; subst this; simp at hi)
  exact ⟨g, o, rfl, (hc i (by simpa [natsV] using hi)).trans (by simp [natsV, hi])⟩
set_option maxHeartbeats 4000000 in
theorem madeR_any (k : Nat) (hk1 : 1 ≤ k) (hk : k ≤ 13) {v : Value} {ns : List Nat} {w : World} (h : RowV w v (natsV ns)) (hl : ns.length = (placesK k).length) :
    Calls Tryd.prog 32 #[.int .i64 k, v] w fun e w' => e = .returned (.agg (layA (setAll (LayF.kind0 k) (placesK k) ns) (.slice none 0 0))) ∧ Ext w w' := by
  have RW := Lib.hid h
  obtain ⟨a, cap, rfl, -, -, -⟩ := h
  have hln : (natsV ns).length = ns.length := by simp [natsV]
  rw [hln] at RW ⊢
  clear hln
  have hh : k = 1 ∨ k = 2 ∨ k = 3 ∨ k = 4 ∨ k = 5 ∨ k = 6 ∨ k = 7 ∨ k = 8 ∨ k = 9 ∨ k = 10 ∨ k = 11 ∨ k = 12 ∨ k = 13 := by omega
  rcases hh with rfl | rfl | rfl | rfl | rfl | rfl | rfl | rfl | rfl | rfl | rfl | rfl | rfl
  · obtain ⟨n0, n1, rfl⟩ : ∃ n0 n1, ns = [n0, n1] := by
      match ns, hl with
      | [n0, n1], _ => exact ⟨_, _, rfl⟩
    obtain ⟨g, o, rfl, c0⟩ := natsV_at RW.out (i := 0) (by simp)
    have z0 := cell_lt c0
    simp only at z0
    simp only [List.getElem_cons_zero, Nat.add_zero] at c0
    obtain ⟨g', o', e1, c1⟩ := natsV_at RW.out (i := 1) (by simp)
    cases e1
    simp only [List.getElem_cons_zero, List.getElem_cons_succ] at c1
    simp only [List.length_cons, List.length_nil]
    clear RW
    go_enter Tryd.func32, Tryd.ntmps32
    go_wp2_with fail
    (try rw [Exit.noGoto_ret])
    change bodyPost _ _ _ _ _ _
    simp [bodyPost, results, Tryd.results32, go_sem, *]
    exact ⟨rfl, (by repeat (first | with_reducible exact Ext.refl _ | with_reducible apply Ext.drew | with_reducible apply Ext.drewN | with_reducible apply Ext.alloc | ((with_reducible refine Ext.setCell ?_ ?_ _); rotate_left; focus (first | (simp; done) | (simp; omega) | omega)) | with_reducible assumption))⟩
  · obtain ⟨n0, n1, n2, n3, n4, rfl⟩ : ∃ n0 n1 n2 n3 n4, ns = [n0, n1, n2, n3, n4] := by
      match ns, hl with
      | [n0, n1, n2, n3, n4], _ => exact ⟨_, _, _, _, _, rfl⟩
    obtain ⟨g, o, rfl, c0⟩ := natsV_at RW.out (i := 0) (by simp)
    have z0 := cell_lt c0
    simp only at z0
    simp only [List.getElem_cons_zero, Nat.add_zero] at c0
    obtain ⟨g', o', e1, c1⟩ := natsV_at RW.out (i := 1) (by simp)
    cases e1
    simp only [List.getElem_cons_zero, List.getElem_cons_succ] at c1
    obtain ⟨g', o', e1, c2⟩ := natsV_at RW.out (i := 2) (by simp)
    cases e1
    simp only [List.getElem_cons_zero, List.getElem_cons_succ] at c2
    obtain ⟨g', o', e1, c3⟩ := natsV_at RW.out (i := 3) (by simp)
    cases e1
    simp only [List.getElem_cons_zero, List.getElem_cons_succ] at c3
    obtain ⟨g', o', e1, c4⟩ := natsV_at RW.out (i := 4) (by simp)
    cases e1
    simp only [List.getElem_cons_zero, List.getElem_cons_succ] at c4
    simp only [List.length_cons, List.length_nil]
    clear RW
    go_enter Tryd.func32, Tryd.ntmps32
    go_wp2_with fail
    (try rw [Exit.noGoto_ret])
    change bodyPost _ _ _ _ _ _
    simp [bodyPost, results, Tryd.results32, go_sem, *]
    exact ⟨rfl, (by repeat (first | with_reducible exact Ext.refl _ | with_reducible apply Ext.drew | with_reducible apply Ext.drewN | with_reducible apply Ext.alloc | ((with_reducible refine Ext.setCell ?_ ?_ _); rotate_left; focus (first | (simp; done) | (simp; omega) | omega)) | with_reducible assumption))⟩
  · obtain rfl : ns = [] := List.eq_nil_of_length_eq_zero hl
    simp only [List.length_nil]
    clear RW
    go_enter Tryd.func32, Tryd.ntmps32
    go_wp2_with fail
    (try rw [Exit.noGoto_ret])
    change bodyPost _ _ _ _ _ _
    simp [bodyPost, results, Tryd.results32, go_sem, *]
    exact ⟨rfl, (by repeat (first | with_reducible exact Ext.refl _ | with_reducible apply Ext.drew | with_reducible apply Ext.drewN | with_reducible apply Ext.alloc | ((with_reducible refine Ext.setCell ?_ ?_ _); rotate_left; focus (first | (simp; done) | (simp; omega) | omega)) | with_reducible assumption))⟩
  · obtain rfl : ns = [] := List.eq_nil_of_length_eq_zero hl
    simp only [List.length_nil]
    clear RW
    go_enter Tryd.func32, Tryd.ntmps32
    go_wp2_with fail
    (try rw [Exit.noGoto_ret])
    change bodyPost _ _ _ _ _ _
    simp [bodyPost, results, Tryd.results32, go_sem, *]
    exact ⟨rfl, (by repeat (first | with_reducible exact Ext.refl _ | with_reducible apply Ext.drew | with_reducible apply Ext.drewN | with_reducible apply Ext.alloc | ((with_reducible refine Ext.setCell ?_ ?_ _); rotate_left; focus (first | (simp; done) | (simp; omega) | omega)) | with_reducible assumption))⟩
  · obtain rfl : ns = [] := List.eq_nil_of_length_eq_zero hl
    simp only [List.length_nil]
    clear RW
    go_enter Tryd.func32, Tryd.ntmps32
    go_wp2_with fail
    (try rw [Exit.noGoto_ret])
    change bodyPost _ _ _ _ _ _
    simp [bodyPost, results, Tryd.results32, go_sem, *]
    exact ⟨rfl, (by repeat (first | with_reducible exact Ext.refl _ | with_reducible apply Ext.drew | with_reducible apply Ext.drewN | with_reducible apply Ext.alloc | ((with_reducible refine Ext.setCell ?_ ?_ _); rotate_left; focus (first | (simp; done) | (simp; omega) | omega)) | with_reducible assumption))⟩
  · obtain rfl : ns = [] := List.eq_nil_of_length_eq_zero hl
    simp only [List.length_nil]
    clear RW
    go_enter Tryd.func32, Tryd.ntmps32
    go_wp2_with fail
    (try rw [Exit.noGoto_ret])
    change bodyPost _ _ _ _ _ _
    simp [bodyPost, results, Tryd.results32, go_sem, *]
    exact ⟨rfl, (by repeat (first | with_reducible exact Ext.refl _ | with_reducible apply Ext.drew | with_reducible apply Ext.drewN | with_reducible apply Ext.alloc | ((with_reducible refine Ext.setCell ?_ ?_ _); rotate_left; focus (first | (simp; done) | (simp; omega) | omega)) | with_reducible assumption))⟩
  · obtain ⟨n0, rfl⟩ : ∃ n0, ns = [n0] := by
      match ns, hl with
      | [n0], _ => exact ⟨_, rfl⟩
    obtain ⟨g, o, rfl, c0⟩ := natsV_at RW.out (i := 0) (by simp)
    have z0 := cell_lt c0
    simp only at z0
    simp only [List.getElem_cons_zero, Nat.add_zero] at c0
    simp only [List.length_cons, List.length_nil]
    clear RW
    go_enter Tryd.func32, Tryd.ntmps32
    go_wp2_with fail
    (try rw [Exit.noGoto_ret])
    change bodyPost _ _ _ _ _ _
    simp [bodyPost, results, Tryd.results32, go_sem, *]
    exact ⟨rfl, (by repeat (first | with_reducible exact Ext.refl _ | with_reducible apply Ext.drew | with_reducible apply Ext.drewN | with_reducible apply Ext.alloc | ((with_reducible refine Ext.setCell ?_ ?_ _); rotate_left; focus (first | (simp; done) | (simp; omega) | omega)) | with_reducible assumption))⟩
  · obtain ⟨n0, rfl⟩ : ∃ n0, ns = [n0] := by
      match ns, hl with
      | [n0], _ => exact ⟨_, rfl⟩
    obtain ⟨g, o, rfl, c0⟩ := natsV_at RW.out (i := 0) (by simp)
    have z0 := cell_lt c0
    simp only at z0
    simp only [List.getElem_cons_zero, Nat.add_zero] at c0
    simp only [List.length_cons, List.length_nil]
    clear RW
    go_enter Tryd.func32, Tryd.ntmps32
    go_wp2_with fail
    (try rw [Exit.noGoto_ret])
    change bodyPost _ _ _ _ _ _
    simp [bodyPost, results, Tryd.results32, go_sem, *]
    exact ⟨rfl, (by repeat (first | with_reducible exact Ext.refl _ | with_reducible apply Ext.drew | with_reducible apply Ext.drewN | with_reducible apply Ext.alloc | ((with_reducible refine Ext.setCell ?_ ?_ _); rotate_left; focus (first | (simp; done) | (simp; omega) | omega)) | with_reducible assumption))⟩
  · obtain ⟨n0, rfl⟩ : ∃ n0, ns = [n0] := by
      match ns, hl with
      | [n0], _ => exact ⟨_, rfl⟩
    obtain ⟨g, o, rfl, c0⟩ := natsV_at RW.out (i := 0) (by simp)
    have z0 := cell_lt c0
    simp only at z0
    simp only [List.getElem_cons_zero, Nat.add_zero] at c0
    simp only [List.length_cons, List.length_nil]
    clear RW
    go_enter Tryd.func32, Tryd.ntmps32
    go_wp2_with fail
    (try rw [Exit.noGoto_ret])
    change bodyPost _ _ _ _ _ _
    simp [bodyPost, results, Tryd.results32, go_sem, *]
    exact ⟨rfl, (by repeat (first | with_reducible exact Ext.refl _ | with_reducible apply Ext.drew | with_reducible apply Ext.drewN | with_reducible apply Ext.alloc | ((with_reducible refine Ext.setCell ?_ ?_ _); rotate_left; focus (first | (simp; done) | (simp; omega) | omega)) | with_reducible assumption))⟩
  · obtain rfl : ns = [] := List.eq_nil_of_length_eq_zero hl
    simp only [List.length_nil]
    clear RW
    go_enter Tryd.func32, Tryd.ntmps32
    go_wp2_with fail
    (try rw [Exit.noGoto_ret])
    change bodyPost _ _ _ _ _ _
    simp [bodyPost, results, Tryd.results32, go_sem, *]
    exact ⟨rfl, (by repeat (first | with_reducible exact Ext.refl _ | with_reducible apply Ext.drew | with_reducible apply Ext.drewN | with_reducible apply Ext.alloc | ((with_reducible refine Ext.setCell ?_ ?_ _); rotate_left; focus (first | (simp; done) | (simp; omega) | omega)) | with_reducible assumption))⟩
  · obtain ⟨n0, n1, rfl⟩ : ∃ n0 n1, ns = [n0, n1] := by
      match ns, hl with
      | [n0, n1], _ => exact ⟨_, _, rfl⟩
    obtain ⟨g, o, rfl, c0⟩ := natsV_at RW.out (i := 0) (by simp)
    have z0 := cell_lt c0
    simp only at z0
    simp only [List.getElem_cons_zero, Nat.add_zero] at c0
    obtain ⟨g', o', e1, c1⟩ := natsV_at RW.out (i := 1) (by simp)
    cases e1
    simp only [List.getElem_cons_zero, List.getElem_cons_succ] at c1
    simp only [List.length_cons, List.length_nil]
    clear RW
    go_enter Tryd.func32, Tryd.ntmps32
    go_wp2_with fail
    (try rw [Exit.noGoto_ret])
    change bodyPost _ _ _ _ _ _
    simp [bodyPost, results, Tryd.results32, go_sem, *]
    exact ⟨rfl, (by repeat (first | with_reducible exact Ext.refl _ | with_reducible apply Ext.drew | with_reducible apply Ext.drewN | with_reducible apply Ext.alloc | ((with_reducible refine Ext.setCell ?_ ?_ _); rotate_left; focus (first | (simp; done) | (simp; omega) | omega)) | with_reducible assumption))⟩
  · obtain ⟨n0, n1, rfl⟩ : ∃ n0 n1, ns = [n0, n1] := by
      match ns, hl with
      | [n0, n1], _ => exact ⟨_, _, rfl⟩
    obtain ⟨g, o, rfl, c0⟩ := natsV_at RW.out (i := 0) (by simp)
    have z0 := cell_lt c0
    simp only at z0
    simp only [List.getElem_cons_zero, Nat.add_zero] at c0
    obtain ⟨g', o', e1, c1⟩ := natsV_at RW.out (i := 1) (by simp)
    cases e1
    simp only [List.getElem_cons_zero, List.getElem_cons_succ] at c1
    simp only [List.length_cons, List.length_nil]
    clear RW
    go_enter Tryd.func32, Tryd.ntmps32
    go_wp2_with fail
    (try rw [Exit.noGoto_ret])
    change bodyPost _ _ _ _ _ _
    simp [bodyPost, results, Tryd.results32, go_sem, *]
    exact ⟨rfl, (by repeat (first | with_reducible exact Ext.refl _ | with_reducible apply Ext.drew | with_reducible apply Ext.drewN | with_reducible apply Ext.alloc | ((with_reducible refine Ext.setCell ?_ ?_ _); rotate_left; focus (first | (simp; done) | (simp; omega) | omega)) | with_reducible assumption))⟩
  · obtain rfl : ns = [] := List.eq_nil_of_length_eq_zero hl
    simp only [List.length_nil]
    clear RW
    go_enter Tryd.func32, Tryd.ntmps32
    go_wp2_with fail
    (try rw [Exit.noGoto_ret])
    change bodyPost _ _ _ _ _ _
    simp [bodyPost, results, Tryd.results32, go_sem, *]
    exact ⟨rfl, (by repeat (first | with_reducible exact Ext.refl _ | with_reducible apply Ext.drew | with_reducible apply Ext.drewN | with_reducible apply Ext.alloc | ((with_reducible refine Ext.setCell ?_ ?_ _); rotate_left; focus (first | (simp; done) | (simp; omega) | omega)) | with_reducible assumption))⟩
end Go.Proofs.YtfimmcnfmipnlaaDoor
