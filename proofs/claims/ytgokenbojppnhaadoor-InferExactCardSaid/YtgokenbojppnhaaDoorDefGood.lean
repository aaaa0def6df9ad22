/- def.plain, goodLayer, goodLayers. -/
import Derived.Test.YtgokenbojppnhaaDoorDefText
namespace Go.Proofs.YtgokenbojppnhaaDoor
open Go.RowKit
/-- Seven numbers alike. -/
def plainB (f g : LayF) : Bool := decide (f.inn = g.inn ∧ f.out = g.out ∧ f.size = g.size ∧ f.stride = g.stride ∧ f.pad = g.pad ∧ f.percent = g.percent ∧ f.heads = g.heads)
set_option maxHeartbeats 2000000 in
theorem plain_any {f g : LayF} {a1 a2 : Option Addr} {n1 n2 c1 c2 : Nat} {w : World} :
    Calls Tryd.prog 64 #[.agg (layA f (.slice a1 n1 c1)), .agg (layA g (.slice a2 n2 c2))] w fun e w' => e = .returned (.bool (plainB f g)) ∧ Ext w w' := by
  obtain ⟨fk, fi, fo, fs, ft, fp, fc, fh⟩ := f
  obtain ⟨gk, gi, go, gs, gt, gp, gc, gh⟩ := g
  simp only [layA, plainB]
  by_cases e0 : fi = gi
  rotate_left
  · have n0 : (fi == gi) = false := by simpa using e0
    rw [decide_eq_false (fun h => e0 (by exact h.1))]
    clear e0
    go_enter Tryd.func64, Tryd.ntmps64
    go_wp2
    go_ret
    exact ⟨rfl, (by repeat (first | with_reducible exact Ext.refl _ | with_reducible apply Ext.drew | with_reducible apply Ext.drewN | with_reducible apply Ext.alloc | ((with_reducible refine Ext.setCell ?_ ?_ _); rotate_left; focus (first | (simp; done) | (simp; omega) | omega)) | with_reducible refine Ext.tr ?_ x1 | with_reducible refine Ext.tr ?_ x5 | with_reducible refine Ext.tr ?_ hx | with_reducible refine Ext.tr ?_ hext | with_reducible assumption))⟩
  subst e0
  have n0 : (fi == fi) = true := by simp
  by_cases e1 : fo = go
  rotate_left
  · have n1 : (fo == go) = false := by simpa using e1
    rw [decide_eq_false (fun h => e1 (by exact h.2.1))]
    clear e1
    go_enter Tryd.func64, Tryd.ntmps64
    go_wp2
    go_ret
    exact ⟨rfl, (by repeat (first | with_reducible exact Ext.refl _ | with_reducible apply Ext.drew | with_reducible apply Ext.drewN | with_reducible apply Ext.alloc | ((with_reducible refine Ext.setCell ?_ ?_ _); rotate_left; focus (first | (simp; done) | (simp; omega) | omega)) | with_reducible refine Ext.tr ?_ x1 | with_reducible refine Ext.tr ?_ x5 | with_reducible refine Ext.tr ?_ hx | with_reducible refine Ext.tr ?_ hext | with_reducible assumption))⟩
  subst e1
  have n1 : (fo == fo) = true := by simp
  by_cases e2 : fs = gs
  rotate_left
  · have n2 : (fs == gs) = false := by simpa using e2
    rw [decide_eq_false (fun h => e2 (by exact h.2.2.1))]
    clear e2
    go_enter Tryd.func64, Tryd.ntmps64
    go_wp2
    go_ret
    exact ⟨rfl, (by repeat (first | with_reducible exact Ext.refl _ | with_reducible apply Ext.drew | with_reducible apply Ext.drewN | with_reducible apply Ext.alloc | ((with_reducible refine Ext.setCell ?_ ?_ _); rotate_left; focus (first | (simp; done) | (simp; omega) | omega)) | with_reducible refine Ext.tr ?_ x1 | with_reducible refine Ext.tr ?_ x5 | with_reducible refine Ext.tr ?_ hx | with_reducible refine Ext.tr ?_ hext | with_reducible assumption))⟩
  subst e2
  have n2 : (fs == fs) = true := by simp
  by_cases e3 : ft = gt
  rotate_left
  · have n3 : (ft == gt) = false := by simpa using e3
    rw [decide_eq_false (fun h => e3 (by exact h.2.2.2.1))]
    clear e3
    go_enter Tryd.func64, Tryd.ntmps64
    go_wp2
    go_ret
    exact ⟨rfl, (by repeat (first | with_reducible exact Ext.refl _ | with_reducible apply Ext.drew | with_reducible apply Ext.drewN | with_reducible apply Ext.alloc | ((with_reducible refine Ext.setCell ?_ ?_ _); rotate_left; focus (first | (simp; done) | (simp; omega) | omega)) | with_reducible refine Ext.tr ?_ x1 | with_reducible refine Ext.tr ?_ x5 | with_reducible refine Ext.tr ?_ hx | with_reducible refine Ext.tr ?_ hext | with_reducible assumption))⟩
  subst e3
  have n3 : (ft == ft) = true := by simp
  by_cases e4 : fp = gp
  rotate_left
  · have n4 : (fp == gp) = false := by simpa using e4
    rw [decide_eq_false (fun h => e4 (by exact h.2.2.2.2.1))]
    clear e4
    go_enter Tryd.func64, Tryd.ntmps64
    go_wp2
    go_ret
    exact ⟨rfl, (by repeat (first | with_reducible exact Ext.refl _ | with_reducible apply Ext.drew | with_reducible apply Ext.drewN | with_reducible apply Ext.alloc | ((with_reducible refine Ext.setCell ?_ ?_ _); rotate_left; focus (first | (simp; done) | (simp; omega) | omega)) | with_reducible refine Ext.tr ?_ x1 | with_reducible refine Ext.tr ?_ x5 | with_reducible refine Ext.tr ?_ hx | with_reducible refine Ext.tr ?_ hext | with_reducible assumption))⟩
  subst e4
  have n4 : (fp == fp) = true := by simp
  by_cases e5 : fc = gc
  rotate_left
  · have n5 : (fc == gc) = false := by simpa using e5
    rw [decide_eq_false (fun h => e5 (by exact h.2.2.2.2.2.1))]
    clear e5
    go_enter Tryd.func64, Tryd.ntmps64
    go_wp2
    go_ret
    exact ⟨rfl, (by repeat (first | with_reducible exact Ext.refl _ | with_reducible apply Ext.drew | with_reducible apply Ext.drewN | with_reducible apply Ext.alloc | ((with_reducible refine Ext.setCell ?_ ?_ _); rotate_left; focus (first | (simp; done) | (simp; omega) | omega)) | with_reducible refine Ext.tr ?_ x1 | with_reducible refine Ext.tr ?_ x5 | with_reducible refine Ext.tr ?_ hx | with_reducible refine Ext.tr ?_ hext | with_reducible assumption))⟩
  subst e5
  have n5 : (fc == fc) = true := by simp
  by_cases e6 : fh = gh
  rotate_left
  · have n6 : (fh == gh) = false := by simpa using e6
    rw [decide_eq_false (fun h => e6 (by exact h.2.2.2.2.2.2))]
    clear e6
    go_enter Tryd.func64, Tryd.ntmps64
    go_wp2
    go_ret
    exact ⟨rfl, (by repeat (first | with_reducible exact Ext.refl _ | with_reducible apply Ext.drew | with_reducible apply Ext.drewN | with_reducible apply Ext.alloc | ((with_reducible refine Ext.setCell ?_ ?_ _); rotate_left; focus (first | (simp; done) | (simp; omega) | omega)) | with_reducible refine Ext.tr ?_ x1 | with_reducible refine Ext.tr ?_ x5 | with_reducible refine Ext.tr ?_ hx | with_reducible refine Ext.tr ?_ hext | with_reducible assumption))⟩
  subst e6
  have n6 : (fh == fh) = true := by simp
  rw [decide_eq_true (by simp)]
  go_enter Tryd.func64, Tryd.ntmps64
  go_wp2
  go_ret
  exact ⟨rfl, (by repeat (first | with_reducible exact Ext.refl _ | with_reducible apply Ext.drew | with_reducible apply Ext.drewN | with_reducible apply Ext.alloc | ((with_reducible refine Ext.setCell ?_ ?_ _); rotate_left; focus (first | (simp; done) | (simp; omega) | omega)) | with_reducible refine Ext.tr ?_ x1 | with_reducible refine Ext.tr ?_ x5 | with_reducible refine Ext.tr ?_ hx | with_reducible refine Ext.tr ?_ hext | with_reducible assumption))⟩
/-- The places' numbers alone. -/
def restF (f : LayF) (ps : List Nat) : LayF := ps.foldl (fun g p => g.set p (f.at p)) LayF.zero
theorem restF_snoc (f : LayF) (ps : List Nat) (p : Nat) : restF f (ps ++ [p]) = (restF f ps).set p (f.at p) := by simp [restF]
def InB (k : Nat) (f : LayF) : Prop := ∀ j (h : j < (placesK k).length), lowK k j ≤ f.at (placesK k)[j] ∧ f.at (placesK k)[j] ≤ highK k
theorem okF_iff {k : Nat} (hk : k ∈ kindsT) {f : LayF} (hf : f.kind = k) : okF k f = true ↔ InB k f ∧ plainB f (restF f (placesK k)) = true := by
  obtain ⟨fk, fi, fo, fs, ft, fp, fc, fh⟩ := f
  simp only at hf
  subst hf
  have two : ∀ {P : Nat → Prop}, (∀ j, j < 2 → P j) ↔ P 0 ∧ P 1 := fun {P} => ⟨fun h => ⟨h 0 (by omega), h 1 (by omega)⟩, fun h j hj => by
    have : j = 0 ∨ j = 1 := by omega
    rcases this with rfl | rfl; exact h.1; exact h.2⟩
  simp only [kindsT, List.mem_cons, List.not_mem_nil, or_false] at hk
  rcases hk with rfl | rfl | rfl | rfl | rfl | rfl | rfl | rfl | rfl | rfl | rfl | rfl
  all_goals
    simp only [okF, fitsK, nsOf, placesK, List.map_cons, List.map_nil, LayF.at, List.length_cons, List.length_nil, fitsFrom, setAll, LayF.set, LayF.kind0, LayF.zero, lowK, highK, plainB, restF, List.foldl_cons, List.foldl_nil, LayF.mk.injEq, Bool.and_eq_true, decide_eq_true_eq, InB]
    constructor
    · intro h
      refine ⟨fun j hj => ?_, by (try simp only [true_and, and_true]); omega⟩
      have hh : j = 0 ∨ j = 1 ∨ j = 2 ∨ j = 3 ∨ j = 4 := by omega
      rcases hh with rfl | rfl | rfl | rfl | rfl <;> first | (exfalso; omega) | (simp at h ⊢; omega)
    · rintro ⟨h, h2⟩
      have a0 := h 0
      have a1 := h 1
      have a2 := h 2
      have a3 := h 3
      have a4 := h 4
      simp at a0 a1 a2 a3 a4 h2 ⊢
      omega
mutual
theorem good_le : ∀ (l : Lay) {deep left l' : Nat}, l.good deep left = some l' → l' ≤ left
  | .mk f b, deep, left, l', h => by
    rw [Lay.good] at h
    split at h
    · cases h
    split at h
    · split at h
      · have := goods_le b h; omega
      · cases h
    · split at h
      · split at h
        · cases h; omega
        · cases h
      · cases h
theorem goods_le : ∀ (ls : List Lay) {deep left l' : Nat}, goodS deep left ls = some l' → l' ≤ left
  | [], _, _, _, h => by simp [goodS] at h; omega
  | l :: ls, deep, left, l', h => by
    rw [goodS] at h
    cases h1 : l.good deep left with
    | none => rw [h1] at h; cases h
    | some l1 =>
      rw [h1] at h
      have := good_le l h1
      have := goods_le ls h
      omega
end
theorem LaysAt.gb {A : Nat → Prop} {w W : World} {n P : Nat} {v : Value} {L : List Lay} (h : LaysAt A w n v L) (hg : GB w W P) (hA : ∀ b, A b → b ≠ P) : LaysAt A W n v L :=
  h.keep (fun _ h => h) (fun b hb hlt => hg.block b hlt (fun e => hA b hb (Option.some.inj e)))
theorem gb_farther {w V W : World} {R b : Nat} (h : GB w V R) (g : GB V W b) (hb : w.heap.size ≤ b) : GB w W R :=
  ⟨g.os.trans h.os, g.tape.trans h.tape, g.output.trans h.output, Nat.le_trans h.size g.size, fun i hi hne => (g.block i (Nat.lt_of_lt_of_le hi h.size) (fun e => by have := Option.some.inj e; omega)).trans (h.block i hi hne)⟩
theorem take_sn {α : Type} {s : List α} {i : Nat} (h : i < s.length) : s.take (i + 1) = s.take i ++ [s[i]] := by rw [List.take_add_one, List.getElem?_eq_getElem h]; rfl
theorem nine {w : World} {b o : Nat} {f : LayF} {bv : Value} (h : ∀ j, j < 9 → w.cell? ⟨b, o + j, none⟩ = (layA f bv)[j]?) :
    w.cell? ⟨b, o, none⟩ = some (.int .i64 f.kind) ∧ w.cell? ⟨b, o + 1, none⟩ = some (.int .i64 f.inn) ∧ w.cell? ⟨b, o + 2, none⟩ = some (.int .i64 f.out) ∧ w.cell? ⟨b, o + 3, none⟩ = some (.int .i64 f.size) ∧ w.cell? ⟨b, o + 4, none⟩ = some (.int .i64 f.stride) ∧ w.cell? ⟨b, o + 5, none⟩ = some (.int .i64 f.pad) ∧ w.cell? ⟨b, o + 6, none⟩ = some (.int .i64 f.percent) ∧ w.cell? ⟨b, o + 7, none⟩ = some (.int .i64 f.heads) ∧ w.cell? ⟨b, o + 8, none⟩ = some bv :=
  ⟨h 0 (by omega), h 1 (by omega), h 2 (by omega), h 3 (by omega), h 4 (by omega), h 5 (by omega), h 6 (by omega), h 7 (by omega), h 8 (by omega)⟩
theorem kindT_none {x : Int} (h : ∀ i, i < 12 → (kindsT.getD i 0 : Int) ≠ x) : kindT x = none := by
  unfold kindT
  refine List.find?_eq_none.2 (fun k hk => ?_)
  obtain ⟨i, hi, rfl⟩ := List.getElem_of_mem hk
  have := h i hi
  rw [List.getD_eq_getElem?_getD, List.getElem?_eq_getElem hi] at this
  simpa using this
theorem kind13 {f : LayF} (h : f.kind = 13) : plainB f LayF.zero = true ↔ f = LayF.kind0 13 := by
  obtain ⟨fk, fi, fo, fs, ft, fp, fc, fh⟩ := f
  simp only at h
  subst h
  simp only [plainB, LayF.zero, LayF.kind0, LayF.mk.injEq, true_and]
  exact decide_eq_true_iff
def GoodOk (n : Nat) : Prop := ∀ (A : Nat → Prop) (v : Value) (L : List Lay) (deep lf P : Nat) (w : World), LaysAt A w n v L → (∀ b, A b → b ≠ P) → Blk w P 3 #[.int .i64 lf] → lf ≤ 64 → deep ≤ 4 →
  Calls Tryd.prog 44 #[v, .int .i64 deep, .pointer (some ⟨P, 0, none⟩)] w fun e w' => e = .returned (.bool (goodS deep lf L).isSome) ∧ GB w w' P ∧ ∀ l', goodS deep lf L = some l' → Blk w' P 3 #[.int .i64 l']
def GoodLOk (n : Nat) : Prop := ∀ (A : Nat → Prop) (f : LayF) (bv : Value) (b : List Lay) (deep lf P : Nat) (w : World), LaysAt A w n bv b → (∀ b, A b → b ≠ P) → Blk w P 3 #[.int .i64 lf] → lf ≤ 64 → deep ≤ 4 →
  Calls Tryd.prog 54 #[.agg (layA f bv), .int .i64 deep, .pointer (some ⟨P, 0, none⟩)] w fun e w' => e = .returned (.bool ((Lay.mk f b).good deep lf).isSome) ∧ GB w w' P ∧ ∀ l', (Lay.mk f b).good deep lf = some l' → Blk w' P 3 #[.int .i64 l']
set_option maxHeartbeats 100000000 in
set_option maxRecDepth 100000 in
theorem goodLayer_step (n : Nat) (IH : GoodOk n) : GoodLOk n := by
  intro A f bv b deep lf P w hL hA hP hlf hd
  obtain ⟨a1, c1, rfl⟩ := hL.form
  have zP := hP.lt
  have hPc : w.cell? ⟨P, 0, none⟩ = some (.int .i64 lf) := hP.cell 0
  have hPq := hP.frozen 0
  have HLY := Lib.hid hL
  have HA := Lib.hid hA
  have HP := Lib.hid hP
  have IH' := Lib.hid IH
  have hbl : b.length ≤ 9223372036854775807 := by
    cases n with
    | zero => rw [hL.1]; simp
    | succ n => obtain ⟨_, _, _, h, _⟩ := hL; unfold maxLen at h; omega
  simp only [layA]
  clear hL hA hP IH
  rcases Nat.eq_zero_or_pos lf with h0 | h0
  · subst h0
    have GN : (Lay.mk f b).good deep 0 = none := by rw [Lay.good, if_pos rfl]
    rw [GN]
    clear GN HLY HA HP IH'
    go_enter Tryd.func54, Tryd.ntmps54
    go_wp2
    go_ret
    exact ⟨rfl, (((GB.refl w P).set 0 _).ext ((Ext.refl _).alloc _)), fun l' h => by cases h⟩
  · obtain ⟨l, hl⟩ : ∃ l, lf - 1 = l := ⟨_, rfl⟩
    have w1 : IntKind.i64.wrap ((lf : Int) - 1) = (l : Int) := by rw [IntKind.wrap_i64]; omega
    have hl64 : l ≤ 64 := by omega
    have hl0 : ¬ (l : Int) < 0 := by omega
    have hdz : (deep : Int) ≤ 4 := by omega
    have GG : (Lay.mk f b).good deep lf = (if f.kind = 13 then (if deep < 4 ∧ f = LayF.kind0 13 then goodS (deep + 1) l b else none) else match kindT f.kind with
      | some k => if okF k f = true ∧ b.isEmpty = true then some l else none
      | none => none) := by rw [Lay.good, if_neg (by omega), hl]; rfl
    obtain ⟨R, hR⟩ : ∃ R, (Lay.mk f b).good deep lf = R := ⟨_, rfl⟩
    rw [hR] at GG ⊢
    have RG := Lib.hid GG
    obtain ⟨V0, hV0⟩ : ∃ V0 : World, (w.setCell ⟨P, 0, none⟩ (.int .i64 (l : Int))).alloc (.cells #[.int .i64 f.kind, .int .i64 f.inn, .int .i64 f.out, .int .i64 f.size, .int .i64 f.stride, .int .i64 f.pad, .int .i64 f.percent, .int .i64 f.heads, .slice a1 b.length c1] 52) = V0 := ⟨_, rfl⟩
    have BG0 := Lib.hid (show Blk V0 w.heap.size 52 (layA f (.slice a1 b.length c1)) by
      rw [← hV0]
      have h1 := Blk.new (w.setCell ⟨P, 0, none⟩ (.int .i64 (l : Int))) 52 #[.int .i64 f.kind, .int .i64 f.inn, .int .i64 f.out, .int .i64 f.size, .int .i64 f.stride, .int .i64 f.pad, .int .i64 f.percent, .int .i64 f.heads, .slice a1 b.length c1]
      rw [World.size_setCell] at h1
      exact h1)
    have BP0 := Lib.hid (show Blk V0 P 3 #[.int .i64 (l : Int)] by rw [← hV0]; exact (HP.out.set_ 0 _).alloc _)
    have GB0 := Lib.hid (show GB w V0 P by rw [← hV0]; exact ((GB.refl w P).set 0 _).ext ((Ext.refl _).alloc _))
    have LY0 := Lib.hid (HLY.out.gb GB0.out HA.out)
    have zV0 : V0.heap.size = w.heap.size + 1 := by rw [← hV0]; simp
    have HV0 := Lib.hid hV0
    clear hR GG hl hV0
    go_enter Tryd.func54, Tryd.ntmps54
    go_upto_region 2 with (fail)
    rw [HV0.out]
    obtain ⟨G, hG⟩ : ∃ G, w.heap.size = G := ⟨_, rfl⟩
    rw [hG] at BG0 zP zV0 ⊢
    have zwG : w.heap.size ≤ G := by omega
    have zG : G < V0.heap.size := by omega
    have zP0 : P < V0.heap.size := by omega
    obtain ⟨k0, k1, k2, k3, k4, k5, k6, k7, k8, -⟩ := BG0.out.lay
    have p0 : V0.cell? ⟨P, 0, none⟩ = some (.int .i64 (l : Int)) := BP0.out.cell 0
    clear HV0 hG HLY HP hPc hPq w1
    by_cases hk : f.kind = 13
    · have kz : (f.kind == 13) = true := by rw [hk]; rfl
      have RK := Lib.hid (RG.out.trans (if_pos hk))
      have K13 := Lib.hid (kind13 hk)
      clear RG hk
      rcases Nat.lt_or_ge deep 4 with hd4 | hd4
      · have dlt : (deep : Int) < 4 := by omega
        obtain ⟨de, hde⟩ : ∃ de, deep + 1 = de := ⟨_, rfl⟩
        have wd : IntKind.i64.wrap ((deep : Int) + 1) = (de : Int) := by rw [IntKind.wrap_i64]; omega
        have de4 : de ≤ 4 := by omega
        have PL := Lib.hid (fun u => plain_any (f := f) (g := LayF.zero) (a1 := a1) (n1 := b.length) (c1 := c1) (a2 := none) (n2 := 0) (c2 := 0) (w := u))
        simp only [layA, LayF.zero] at PL
        rw [show (LayF.mk 0 0 0 0 0 0 0 0) = LayF.zero from rfl] at PL
        go_wp2_with fail
        refine (PL.out _).mono ?_
        rintro e v1 ⟨rfl, x1⟩
        have k8' := x1.cell k8
        have zP1 : P < v1.heap.size := by have := x1.size; omega
        have zG1 : G < v1.heap.size := by have := x1.size; omega
        have GB1 := Lib.hid (GB0.out.ext x1)
        clear PL k0 k1 k2 k3 k4 k5 k6 k7 k8 p0
        cases hpb : plainB f LayF.zero with
        | false =>
          obtain rfl : R = none := RK.out.trans (if_neg (fun h => by have := K13.out.2 h.2; rw [hpb] at this; cases this))
          clear RK K13 hpb
          go_wp2_with fail
          go_ret
          exact ⟨rfl, GB1.out, fun l' h => by cases h⟩
        | true =>
          have RK2 := Lib.hid (RK.out.trans (if_pos ⟨hd4, K13.out.1 hpb⟩))
          rw [hde] at RK2
          have IC := Lib.hid (IH'.out A (.slice a1 b.length c1) b de l P v1 (LY0.out.ext x1) HA.out (BP0.out.ext x1) hl64 de4)
          rw [← RK2.out] at IC
          clear RK RK2 K13 hpb
          go_wp2_with fail
          refine IC.out.mono ?_
          rintro e v2 ⟨rfl, gb2, hbl2⟩
          have G2 := Lib.hid (GB1.out.trans gb2)
          have HB2 := Lib.hid hbl2
          clear IC gb2 hbl2
          go_wp2_with fail
          go_ret
          exact ⟨rfl, G2.out, HB2.out⟩
      · have dlt : ¬ (deep : Int) < 4 := by omega
        obtain rfl : R = none := RK.out.trans (if_neg (fun h => by omega))
        clear RK K13
        go_wp2_with fail
        go_ret
        first | exact GB0.out | exact ⟨rfl, GB0.out⟩ | exact ⟨rfl, GB0.out, fun l' h => by cases h⟩
    · have kz : (f.kind == 13) = false := by simpa using hk
      have RK := Lib.hid (RG.out.trans (if_neg hk))
      clear RG hk
      go_wp2_with fail
      refine (rows_any _).mono ?_
      rintro e v1 ⟨B, rfl, x1, hB0, tab⟩
      have BG1 := Lib.hid (BG0.out.ext x1)
      have BP1 := Lib.hid (BP0.out.ext x1)
      have GB1 := Lib.hid (GB0.out.ext x1)
      have LY1 := Lib.hid (LY0.out.ext x1)
      have zx1 := x1.size
      have TAB := Lib.hid tab
      clear tab BG0 BP0 GB0 LY0 k0 k1 k2 k3 k4 k5 k6 k7 k8 p0 x1
      go_wp2_with fail
      go_loopw [42] (fun c wr => ∃ i : Nat, i ≤ 12 ∧ c = .int .i64 i ∧ (∀ j, j < i → (kindsT.getD j 0 : Int) ≠ f.kind) ∧ Ext v1 wr) (fun c _ => 12 - (intOf c).toNat)
      case atStart => exact ⟨0, Nat.zero_le _, rfl, fun j h => absurd h (Nat.not_lt_zero j), Ext.refl _⟩
      case round =>
        obtain ⟨i, hi, rfl, hno, hext⟩ := hrel
        have NO := Lib.hid hno
        have BG2 := Lib.hid (BG1.out.ext hext)
        have BP2 := Lib.hid (BP1.out.ext hext)
        have GB2 := Lib.hid (GB1.out.ext hext)
        have LY2 := Lib.hid (LY1.out.ext hext)
        have XV := Lib.hid hext
        have zw := hext.size
        obtain ⟨k0, k1, k2, k3, k4, k5, k6, k7, k8, -⟩ := BG2.out.lay
        have zGw : G < wr.heap.size := cell_lt k0
        clear hno
        rcases Nat.lt_or_ge i 12 with hlt | hge
        · have hz : (i : Int) < 12 := by omega
          have row := (TAB.out i hlt).ext hext
          have e0 := row.kind
          have e1 := row.word
          obtain ⟨_, _, _, e2, e3, e4, ⟨aa, qa, rfl, -, -, ra⟩, ⟨al, ql, rfl, -, -, rl⟩, ⟨ah, qh, rfl, -, -, rh⟩, rb⟩ := row.rest
          clear row hext
          rw [List.length_map] at e2 ra
          rw [lows_len] at e3 rl
          rw [highs_len] at e4 rh
          have pn : (placesK (kindsT.getD i 0)).length ≤ 5 := places_len _
          have RA := Lib.hid ra
          have RL := Lib.hid rl
          have RH := Lib.hid rh
          have RB := Lib.hid rb
          have zB : B < wr.heap.size := cell_lt e0
          clear ra rl rh rb
          have NX : Hid ((kindsT.getD i 0 : Int) ≠ f.kind → ∀ j, j < i + 1 → (kindsT.getD j 0 : Int) ≠ f.kind) := Lib.hid (fun h j hj => by
            rcases Nat.lt_succ_iff_lt_or_eq.1 hj with h' | rfl
            · exact NO.out j h'
            · exact h)
          have KM : Hid (kindsT.getD i 0 ∈ kindsT) := Lib.hid (by
            have hl12 : i < kindsT.length := hlt
            rw [List.getD_eq_getElem?_getD, List.getElem?_eq_getElem hl12]; exact List.getElem_mem hl12)
          clear NO
          generalize kindsT.getD i 0 = k at *
          obtain ⟨N, hN, -, -, -, -⟩ := str_of (nameB k)
          rw [hN] at e1
          clear hN
          by_cases e : (k : Int) = f.kind
          · have ne : ((k : Int) != f.kind) = false := by rw [bne, beq_iff_eq.2 e]; rfl
            have KT := Lib.hid (show kindT f.kind = some k by rw [← e]; exact (kindT_of KM.out).1)
            have OK := Lib.hid (okF_iff KM.out e.symm)
            have RK2 := Lib.hid (show R = if okF k f = true ∧ b.isEmpty = true then some l else none by rw [RK.out, KT.out])
            obtain ⟨W2, hW2⟩ : ∃ W2 : World, (wr.alloc (.cells #[.int .i64 k, .string N, .slice aa (placesK k).length qa, .slice al (placesK k).length ql, .slice ah (placesK k).length qh] 115)).alloc (.cells #[.int .i64 0, .int .i64 0, .int .i64 0, .int .i64 0, .int .i64 0, .int .i64 0, .int .i64 0, .int .i64 0, .slice none 0 0] 52) = W2 := ⟨_, rfl⟩
            have X2 : Ext wr W2 := by rw [← hW2]; exact ((Ext.refl _).alloc _).alloc _
            have BX2 := Lib.hid (show Blk W2 wr.heap.size 115 #[.int .i64 k, .string N, .slice aa (placesK k).length qa, .slice al (placesK k).length ql, .slice ah (placesK k).length qh] by rw [← hW2]; exact (Blk.new wr _ _).alloc _)
            have BM2 := Lib.hid (show Blk W2 (wr.heap.size + 1) 52 (layA LayF.zero (.slice none 0 0)) by
              rw [← hW2]
              have h1 := Blk.new (wr.alloc (.cells #[.int .i64 k, .string N, .slice aa (placesK k).length qa, .slice al (placesK k).length ql, .slice ah (placesK k).length qh] 115)) 52 (layA LayF.zero (.slice none 0 0))
              rw [World.size_alloc] at h1
              exact h1)
            have BG3 := Lib.hid (BG2.out.ext X2)
            have BP3 := Lib.hid (BP2.out.ext X2)
            have GB3 := Lib.hid (GB2.out.ext X2)
            have XR := Lib.hid X2
            have HW2 := Lib.hid hW2
            have zW2 : W2.heap.size = wr.heap.size + 2 := by rw [← hW2]; simp
            clear hW2 X2 e NX KT RK
            go_upto_region 11 with (fail)
            rw [HW2.out]
            obtain ⟨g, hg⟩ : ∃ g, wr.heap.size = g := ⟨_, rfl⟩
            rw [hg] at BX2 BM2 zW2 zw zB zGw ⊢
            have hz64 : (placesK k).length ≤ 9223372036854775807 := by omega
            have y2 : W2.cell? ⟨g, 2, none⟩ = some (.slice aa (placesK k).length qa) := BX2.out.cell 2
            have zg : g < W2.heap.size := by omega
            have HG := Lib.hid hg
            clear hg HW2 e0 e1 e2 e3 e4 k0 k1 k2 k3 k4 k5 k6 k7 k8 BG2 BP2 GB2 LY2 TAB
            go_wp2_with fail
            go_loopw [54] (fun c wr' => ∃ j : Nat, j ≤ (placesK k).length ∧ c = .int .i64 j ∧ (∀ q (h : q < (placesK k).length), q < j → lowK k q ≤ f.at (placesK k)[q] ∧ f.at (placesK k)[q] ≤ highK k) ∧ Blk wr' (g + 1) 52 (layA (restF f ((placesK k).take j)) (.slice none 0 0)) ∧ GB W2 wr' (g + 1)) (fun c _ => (placesK k).length - (intOf c).toNat)
            case atStart => exact ⟨0, Nat.zero_le _, rfl, fun q _ h => absurd h (Nat.not_lt_zero q), BM2.out, GB.refl _ _⟩
            case round =>
              obtain ⟨j, hj, rfl, hin, hbm, hgb⟩ := hrel
              have HIN := Lib.hid hin
              have BM := Lib.hid hbm
              have GX := Lib.hid hgb
              obtain ⟨V, rfl⟩ : ∃ V : World, V = wr := ⟨_, rfl⟩
              have bg := BG3.out.gb hgb (fun e => by omega)
              have bx := BX2.out.gb hgb (fun e => by omega)
              have BPV := Lib.hid (BP3.out.gb hgb (fun e => by omega))
              have GBV := Lib.hid (gb_farther GB3.out hgb (by omega))
              have y3 : V.cell? ⟨g, 3, none⟩ = some (.slice al (placesK k).length ql) := bx.cell 3
              have y4 : V.cell? ⟨g, 4, none⟩ = some (.slice ah (placesK k).length qh) := bx.cell 4
              have zgV : g < V.heap.size := bx.lt
              have zGV : G < V.heap.size := bg.lt
              have zMV : g + 1 < V.heap.size := hbm.lt
              clear hin
              rcases Nat.lt_or_ge j (placesK k).length with hjl | hjg
              · have hjz : (j : Int) < ((placesK k).length : Int) := by omega
                have nep : placesK k ≠ [] := fun e => absurd hjl (by rw [e]; exact Nat.not_lt_zero j)
                obtain ⟨ba1, oa1, rfl, ca⟩ := RA.out (by simpa using nep)
                obtain ⟨bl1, ol1, rfl, cl⟩ := RL.out (fun e => nep (List.eq_nil_of_length_eq_zero (by have := congrArg List.length e; rw [lows_len] at this; exact this)))
                obtain ⟨bh1, oh1, rfl, ch⟩ := RH.out (fun e => nep (List.eq_nil_of_length_eq_zero (by have := congrArg List.length e; rw [highs_len] at this; exact this)))
                have ja := (ca j hjl).trans (show ((placesK k).map fnV)[j]? = some (fnV (placesK k)[j]) by rw [List.getElem?_map, List.getElem?_eq_getElem hjl]; rfl)
                have la := cell_lt ja
                have jl := cl j hjl
                have ll := cell_lt jl
                have jh := ch j hjl
                have lh := cell_lt jh
                rw [HG.out] at la ll lh
                simp only at la ll lh
                have fa := hgb.cell (XR.out.cell ja) (show ba1 ≠ g + 1 by omega)
                have fl := hgb.cell (XR.out.cell jl) (show bl1 ≠ g + 1 by omega)
                have fh := hgb.cell (XR.out.cell jh) (show bh1 ≠ g + 1 by omega)
                rw [lows_at hjl] at fl
                rw [highs_at hjl] at fh
                have za := cell_lt fa
                have zl := cell_lt fl
                have zh := cell_lt fh
                simp only at za zl zh
                have PK := places_ok (k := k) (List.getElem_mem hjl)
                have NIB := Lib.hid (fun (h : ¬ (lowK k j ≤ f.at (placesK k)[j] ∧ f.at (placesK k)[j] ≤ highK k)) => (show R = none by
                  rw [RK2.out, if_neg]
                  intro h'
                  exact h ((OK.out.1 h'.1).1 j hjl)))
                have YIB := Lib.hid (fun (h : lowK k j ≤ f.at (placesK k)[j] ∧ f.at (placesK k)[j] ≤ highK k) q (hq : q < (placesK k).length) (hqj : q < j + 1) => (show lowK k q ≤ f.at (placesK k)[q] ∧ f.at (placesK k)[q] ≤ highK k by
                  rcases Nat.lt_succ_iff_lt_or_eq.1 hqj with h' | rfl
                  · exact HIN.out q hq h'
                  · exact h))
                have TK := Lib.hid (show restF f ((placesK k).take (j + 1)) = (restF f ((placesK k).take j)).set (placesK k)[j] (f.at (placesK k)[j]) by rw [take_sn hjl, restF_snoc])
                obtain ⟨p, hp⟩ : ∃ p, (placesK k)[j] = p := ⟨_, rfl⟩
                rw [hp] at PK NIB YIB TK fa
                replace fa : V.cell? ⟨ba1, oa1 + j, none⟩ = some (.func (.func (fieldFn p)) #[] #[]) := fa
                obtain ⟨P1, P2⟩ := PK
                have lc := (bg.cell p).trans (layA_at f _ (by omega))
                have mc := (hbm.cell p).trans (layA_at _ _ (by omega))
                have mq := hbm.frozen p
                obtain ⟨x, hx⟩ : ∃ x, f.at p = x := ⟨_, rfl⟩
                obtain ⟨lo, hlo⟩ : ∃ lo, lowK k j = lo := ⟨_, rfl⟩
                obtain ⟨hi', hhi⟩ : ∃ hi', highK k = hi' := ⟨_, rfl⟩
                obtain ⟨m0, hm0⟩ : ∃ m0, (restF f ((placesK k).take j)).at p = m0 := ⟨_, rfl⟩
                have HX := Lib.hid hx
                have HLO := Lib.hid hlo
                have HHI := Lib.hid hhi
                rw [hx] at lc NIB TK
                rw [hlo] at fl NIB
                rw [hhi] at fh NIB
                rw [hm0] at mc
                have FA := Lib.hid (fun u => field_any P1 P2 G u)
                have FM := Lib.hid (fun u => field_any P1 P2 (g + 1) u)
                clear RA RL RH RB ca cl ch nep ja jl jh la ll lh hp hx hlo hhi hm0 hbm hgb bg bx HIN
                go_wp2_with fail
                rw [field_enters P1 P2]
                change Calls _ _ _ _ _
                refine (FA.out _).mono ?_
                rintro e w' ⟨rfl, rfl⟩
                by_cases h1 : x < lo
                · obtain rfl : R = none := NIB.out (fun h => by omega)
                  clear NIB YIB TK FM
                  go_wp2_with fail
                  go_ret
                  first | exact GBV.out | exact ⟨rfl, GBV.out⟩ | exact ⟨rfl, GBV.out, fun l' h => by cases h⟩
                · by_cases h2 : hi' < x
                  · obtain rfl : R = none := NIB.out (fun h => by omega)
                    clear NIB YIB TK FM
                    go_wp2_with fail
                    go_ret
                    first | exact GBV.out | exact ⟨rfl, GBV.out⟩ | exact ⟨rfl, GBV.out, fun l' h => by cases h⟩
                  · have Y2 := Lib.hid (YIB.out ⟨by rw [HX.out, HLO.out]; omega, by rw [HX.out, HHI.out]; omega⟩)
                    have BM' := Lib.hid (show Blk (V.setCell ⟨g + 1, p, none⟩ (.int .i64 x)) (g + 1) 52 (layA (restF f ((placesK k).take (j + 1))) (.slice none 0 0)) by
                      rw [TK.out, ← layA_set _ _ (by omega)]
                      exact BM.out.set_ p _)
                    have GX' := Lib.hid (GX.out.set p (.int .i64 x))
                    clear NIB YIB TK BM GX
                    go_wp2_with fail
                    rw [field_enters P1 P2]
                    change Calls _ _ _ _ _
                    refine (FM.out _).mono ?_
                    rintro e w' ⟨rfl, rfl⟩
                    clear FM FA
                    go_wp2_with fail
                    exact ⟨⟨j + 1, by omega, by go_num, Y2.out, BM'.out, GX'.out⟩, by simp [intOf]; omega⟩
              · obtain rfl : j = (placesK k).length := by omega
                have hjz : ¬ ((placesK k).length : Int) < ((placesK k).length : Int) := by omega
                have IN := Lib.hid (show InB k f from fun q hq => HIN.out q hq hq)
                rw [List.take_length] at BM hbm
                obtain ⟨m, hm⟩ : ∃ m, restF f (placesK k) = m := ⟨_, rfl⟩
                rw [hm] at OK BM hbm
                obtain ⟨k0, k1, k2, k3, k4, k5, k6, k7, k8, -⟩ := bg.lay
                obtain ⟨m0, m1, m2, m3, m4, m5, m6, m7, m8, -⟩ := hbm.lay
                clear RA RL RH RB y3 y4 hm hbm hgb bx HIN GX BM
                by_cases hb0 : b.length = 0
                · have lz : ((b.length : Int) == 0) = true := by rw [beq_iff_eq]; omega
                  have be : b.isEmpty = true := by rw [List.isEmpty_iff]; exact List.eq_nil_of_length_eq_zero hb0
                  have RP := Lib.hid (show R = if plainB f m = true then some l else none by
                    rw [RK2.out]
                    by_cases hp : plainB f m = true
                    · rw [if_pos hp, if_pos ⟨OK.out.2 ⟨IN.out, hp⟩, be⟩]
                    · rw [if_neg hp, if_neg (fun h => hp (OK.out.1 h.1).2)])
                  have PL := Lib.hid (fun u => plain_any (f := f) (g := m) (a1 := a1) (n1 := b.length) (c1 := c1) (a2 := none) (n2 := 0) (c2 := 0) (w := u))
                  simp only [layA] at PL
                  clear RK2 OK IN be hb0
                  go_wp2_with fail
                  refine (PL.out _).mono ?_
                  rintro e v5 ⟨rfl, x5⟩
                  have G5 := Lib.hid (GBV.out.ext x5)
                  have B5 := Lib.hid (BPV.out.ext x5)
                  clear PL k0 k1 k2 k3 k4 k5 k6 k7 k8 m0 m1 m2 m3 m4 m5 m6 m7 m8
                  cases hpb : plainB f m with
                  | true =>
                    rw [hpb] at RP
                    obtain rfl : R = some l := RP.out
                    clear RP hpb
                    go_wp2_with fail
                    go_ret
                    exact ⟨rfl, G5.out, fun l' h => by cases h; exact B5.out⟩
                  | false =>
                    rw [hpb] at RP
                    obtain rfl : R = none := RP.out
                    clear RP hpb
                    go_wp2_with fail
                    go_ret
                    first | exact G5.out | exact ⟨rfl, G5.out⟩ | exact ⟨rfl, G5.out, fun l' h => by cases h⟩
                · have lz : ((b.length : Int) == 0) = false := by rw [beq_eq_false_iff_ne]; omega
                  obtain rfl : R = none := by
                    rw [RK2.out, if_neg]
                    rintro ⟨-, h⟩
                    rw [List.isEmpty_iff] at h
                    exact hb0 (by rw [h]; rfl)
                  clear RK2 OK IN hb0
                  go_wp2_with fail
                  go_ret
                  first | exact GBV.out | exact ⟨rfl, GBV.out⟩ | exact ⟨rfl, GBV.out, fun l' h => by cases h⟩
          · have ne : ((k : Int) != f.kind) = true := by rw [bne, beq_eq_false_iff_ne.2 e]; rfl
            have N2 := Lib.hid (NX.out e)
            clear NX e RA RL RH RB KM BG2 BP2 GB2 LY2 RK
            go_wp2_with fail
            exact ⟨⟨i + 1, by omega, by go_num, N2.out, XV.out.tr (by repeat (first | with_reducible exact Ext.refl _ | with_reducible apply Ext.drew | with_reducible apply Ext.drewN | with_reducible apply Ext.alloc | ((with_reducible refine Ext.setCell ?_ ?_ _); rotate_left; focus (first | (simp; done) | (simp; omega) | omega)) | with_reducible refine Ext.tr ?_ x1 | with_reducible refine Ext.tr ?_ x5 | with_reducible refine Ext.tr ?_ hx | with_reducible refine Ext.tr ?_ hext | with_reducible assumption))⟩, by simp [intOf]; omega⟩
        · obtain rfl : i = 12 := by omega
          have hz : ¬ (12 : Int) < 12 := by omega
          obtain rfl : R = none := by rw [RK.out, kindT_none NO.out]
          clear RK NO TAB LY2 BG2 BP2
          go_wp2_with fail
          go_ret
          first | exact GB2.out | exact ⟨rfl, GB2.out⟩ | exact ⟨rfl, GB2.out, fun l' h => by cases h⟩
set_option maxHeartbeats 100000000 in
set_option maxRecDepth 100000 in
theorem goodLayers_step (n : Nat) (IH : ∀ m, n = m + 1 → GoodLOk m) : GoodOk n := by
  intro A v L deep lf P w hL hA hP hlf hd
  obtain ⟨a1, c1, rfl⟩ := hL.form
  have HP := Lib.hid hP
  have HA := Lib.hid hA
  have HLY := Lib.hid hL
  have hm : L.length ≤ 9223372036854775807 := by
    cases n with
    | zero => rw [hL.1]; simp
    | succ n => obtain ⟨_, _, _, h, _⟩ := hL; unfold maxLen at h; omega
  obtain ⟨R, hR⟩ : ∃ R, goodS deep lf L = R := ⟨_, rfl⟩
  rw [hR]
  have RG := Lib.hid hR
  clear hL hA hP hR
  go_enter Tryd.func44, Tryd.ntmps44
  go_wp2_with fail
  go_loopw [11] (fun c wr => ∃ (k lf' : Nat), k ≤ L.length ∧ c = .int .i64 k ∧ goodS deep lf' (L.drop k) = R ∧ lf' ≤ 64 ∧ GB w wr P ∧ Blk wr P 3 #[.int .i64 lf']) (fun c _ => L.length - (intOf c).toNat)
  case atStart => exact ⟨0, lf, Nat.zero_le _, rfl, RG.out, hlf, GB.refl _ _, HP.out⟩
  case round =>
    obtain ⟨k, lf', hk, rfl, hr, hlf', hgb, hbp⟩ := hrel
    have RD := Lib.hid hr
    have GX := Lib.hid hgb
    have BP := Lib.hid hbp
    obtain ⟨wo, rfl⟩ : ∃ wo : World, wo = wr := ⟨_, rfl⟩
    clear hr RG
    rcases Nat.lt_or_ge k L.length with hlt | hge
    · have hkz : (k : Int) < (L.length : Int) := by omega
      cases n with
      | zero => rw [HLY.out.1] at hlt; exact absurd hlt (Nat.not_lt_zero _)
      | succ n =>
        obtain ⟨_, _, e1, -, q1⟩ := HLY.out
        cases e1
        obtain ⟨b, o, rfl, hb, r1⟩ := q1 (by intro e; rw [e] at hlt; simp at hlt)
        obtain ⟨bv, -, t1, s1⟩ := r1 k hlt
        obtain ⟨y0, y1, y2, y3, y4, y5, y6, y7, y8⟩ := nine t1
        have hbP := HA.out b hb
        have z0 := hgb.cell y0 hbP
        have z1 := hgb.cell y1 hbP
        have z2 := hgb.cell y2 hbP
        have z3 := hgb.cell y3 hbP
        have z4 := hgb.cell y4 hbP
        have z5 := hgb.cell y5 hbP
        have z6 := hgb.cell y6 hbP
        have z7 := hgb.cell y7 hbP
        have z8 := hgb.cell y8 hbP
        have zb := cell_lt z0
        simp only at zb
        have DR := Lib.hid (List.drop_eq_getElem_cons hlt)
        have S1 := Lib.hid (s1.gb hgb HA.out)
        obtain ⟨f, hf⟩ : ∃ f, L[k].f = f := ⟨_, rfl⟩
        obtain ⟨bd, hbd⟩ : ∃ bd, L[k].b = bd := ⟨_, rfl⟩
        have EL := Lib.hid (show L[k] = .mk f bd by rw [← hf, ← hbd]; cases L[k]; rfl)
        rw [hf] at z0 z1 z2 z3 z4 z5 z6 z7
        rw [hbd] at S1
        obtain ⟨ab, cb, rfl⟩ := S1.out.form
        have X1 : Ext wo (wo.alloc (.cells #[.int .i64 f.kind, .int .i64 f.inn, .int .i64 f.out, .int .i64 f.size, .int .i64 f.stride, .int .i64 f.pad, .int .i64 f.percent, .int .i64 f.heads, .slice ab bd.length cb] 52)) := (Ext.refl _).alloc _
        have IC := Lib.hid (IH n rfl A f (.slice ab bd.length cb) bd deep lf' P _ (S1.out.ext X1) HA.out (BP.out.ext X1) hlf' hd)
        simp only [layA] at IC
        obtain ⟨T, hT⟩ : ∃ T, (Lay.mk f bd).good deep lf' = T := ⟨_, rfl⟩
        rw [hT] at IC
        have HT := Lib.hid hT
        have G1 := Lib.hid (GX.out.ext X1)
        clear y0 y1 y2 y3 y4 y5 y6 y7 y8 t1 s1 q1 r1 hf hbd hT hgb hbp GX BP S1 X1 HP
        go_wp2_with fail
        refine IC.out.mono ?_
        rintro e w2 ⟨rfl, gb2, hb2⟩
        have G2 := Lib.hid (G1.out.trans gb2)
        have HB2 := Lib.hid hb2
        clear IC gb2 hb2 z0 z1 z2 z3 z4 z5 z6 z7 z8
        have RE := Lib.hid (show T.elim none (fun l1 => goodS deep l1 (L.drop (k + 1))) = R by
          rw [← RD.out, DR.out, EL.out, goodS, HT.out]
          clear HB2 HT
          cases T <;> rfl)
        cases T with
        | none =>
          obtain rfl : R = none := RE.out.symm
          clear RE RD HT
          go_wp2_with fail
          go_ret
          first | exact G2.out | exact ⟨rfl, G2.out⟩ | exact ⟨rfl, G2.out, fun l' h => by cases h⟩
        | some l1 =>
          have h64 : l1 ≤ 64 := by have := good_le _ HT.out; omega
          have B3 := Lib.hid (HB2.out l1 rfl)
          clear RD HT HB2
          go_wp2_with fail
          exact ⟨⟨k + 1, l1, by omega, by go_num, RE.out, h64, G2.out, B3.out⟩, by simp [intOf]; omega⟩
    · have hkz : ¬ (k : Int) < (L.length : Int) := by omega
      obtain rfl : R = some lf' := by rw [← RD.out, List.drop_of_length_le hge]; rfl
      clear RD HP
      go_wp2_with fail
      go_ret
      first | exact ⟨GX.out, BP.out⟩ | exact ⟨rfl, GX.out, BP.out⟩ | exact ⟨rfl, GX.out, fun l' h => by cases h; exact BP.out⟩
theorem good_all : ∀ n, GoodOk n
  | 0 => goodLayers_step 0 (fun _ h => by omega)
  | n + 1 => goodLayers_step (n + 1) (fun m h => by
    have e : m = n := by omega
    rw [e]; exact goodLayer_step n (good_all n))
end Go.Proofs.YtgokenbojppnhaaDoor
