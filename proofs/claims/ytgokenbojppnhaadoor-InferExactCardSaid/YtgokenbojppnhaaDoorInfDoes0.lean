/- (*infer.step).does: what it promises; RowS: a row that stays. -/
import Derived.Test.YtgokenbojppnhaaDoorInfParam
namespace Go.Proofs.YtgokenbojppnhaaDoor
open Go.RowKit
attribute [local go_sem ↓] Go.wp_at_zero Go.wp_at_succ
/-- A row that lies below B, or in a block of ints. -/
def RowS (B : Nat) (w : World) (v : Value) (xs : List Int) : Prop := Row .i64 w v xs ∧ ∀ b, v.ownBlock = some b → b < B ∨ ∃ cs fr, w.heap[b]? = some (.cells cs 3 fr)
theorem RowS.keep {B : Nat} {w w' : World} {v : Value} {xs : List Int} (h : RowS B w v xs) (h1 : ∀ k, k < B → k < w.heap.size → w'.heap[k]? = w.heap[k]?) (h2 : ∀ (k : Nat) (cs : Array Value) (fr : Nat × Nat), w.heap[k]? = some (.cells cs 3 fr) → w'.heap[k]? = some (.cells cs 3 fr)) : RowS B w' v xs := by
  obtain ⟨⟨a, c, rfl, g1, g2, g3⟩, g4⟩ := h
  refine ⟨⟨a, c, rfl, g1, g2, fun hn => ?_⟩, fun b hb => ?_⟩
  · obtain ⟨b, o, rfl, hc⟩ := g3 hn
    refine ⟨b, o, rfl, fun i hi => ?_⟩
    have hlt := cell_lt (hc i hi)
    have e : w'.heap[b]? = w.heap[b]? := by
      rcases g4 b rfl with h | ⟨cs, fr, h⟩
      · exact h1 b h hlt
      · rw [h2 b cs fr h, h]
    rw [World.cell?_of_block (a := ⟨b, o + i, none⟩) e]
    exact hc i hi
  · rcases g4 b hb with h | ⟨cs, fr, h⟩
    · exact .inl h
    · exact .inr ⟨cs, fr, h2 b cs fr h⟩
theorem RowS.ext {B : Nat} {w w' : World} {v : Value} {xs : List Int} (h : RowS B w v xs) (x : Ext w w') : RowS B w' v xs :=
  h.keep (fun k _ hk => x.block k hk) (fun k _ _ e => (x.block k (Array.getElem?_eq_some_iff.1 e).1).trans e)
theorem RowS.of_own {B base : Nat} {w : World} {v : Value} {n : Nat} {xs : List Int} (h : w.ownsRow base 3 1 v n (xs.map (Value.int .i64))) : RowS B w v xs :=
  ⟨(Row.of_owns h).1, fun b hb => .inr (own_type h b hb).2⟩
theorem RowS.gb {B S : Nat} {w w' : World} {v : Value} {xs : List Int} {t : TypeId} {cs : Array Value} (h : RowS B w v xs) (g : GB w w' S) (hS : Blk w S t cs) (ht : t ≠ 3) (hB : B ≤ S) : RowS B w' v xs :=
  h.keep (fun k hk hl => g.block k hl (fun e => by cases e; omega)) (fun k ks fr e => by
    refine (g.block k (Array.getElem?_eq_some_iff.1 e).1 (fun e2 => ?_)).trans e
    cases e2
    unfold Blk at hS
    rw [hS] at e
    cases e
    exact ht rfl)
theorem RowS.chg {B B' S : Nat} {w w' : World} {v : Value} {xs : List Int} (h : RowS B w v xs) (c : Chg B' S w w') (hB : B ≤ B') (hS : B ≤ S) : RowS B w' v xs :=
  h.keep (fun k hk _ => c.old k (by omega) (by omega)) c.ints
theorem Chg.low {B B' S : Nat} {w w' : World} (c : Chg B' S w w') (hB : B ≤ B') : Chg B S w w' := ⟨c.os, c.tape, c.output, c.size, fun k hk hn => c.old k (by omega) hn, c.ints⟩
theorem Chg.cell {B S : Nat} {w w' : World} {p : Addr} {v : Value} (c : Chg B S w w') (h : w.cell? p = some v) (hp : p.block < B) (hn : p.block ≠ S) : w'.cell? p = some v := by
  rw [← h]; exact World.cell?_of_block (c.old _ hp hn)
theorem Blk.cells {w : World} {g : Nat} {t : TypeId} {cs : Array Value} {v : Value} (h : Blk w g t cs) (i : Nat) (hv : cs[i]? = some v) : w.cell? ⟨g, i, none⟩ = some v := (h.cell i).trans hv
theorem RowS.ne {B S n c : Nat} {w : World} {p : Addr} {xs : List Int} {t : TypeId} {cs : Array Value} (h : RowS B w (.slice (some p) n c) xs) (hS : Blk w S t cs) (ht : t ≠ 3) (hB : B ≤ S) : p.block ≠ S := by
  rintro rfl
  rcases h.2 p.block rfl with h | ⟨ks, fr, h⟩
  · omega
  · unfold Blk at hS
    rw [hS] at h
    cases h
    exact ht rfl
theorem fresh_own {W : World} {g : Nat} (base : Nat) (hg : W.heap.size = g) (hb : base ≤ g) (xs : List Int) (hm : xs.length ≤ maxLen) : (W.alloc (.cells (ints xs) 3)).ownsRow base 3 1 (.slice (some ⟨g, 0, none⟩) xs.length xs.length) xs.length (xs.map (Value.int .i64)) := by
  subst hg
  have := World.ownsRow_lit (e := 3) (size := 1) W (ints xs) xs.length hb hm (by simp [ints])
  rwa [show (ints xs).toList = xs.map (Value.int .i64) by simp [ints]] at this
/-- What does promises. -/
def DoesP (B : Nat) (w : World) (S : Nat) (f : LayF) (bv iv : Value) (first : Bool) (nm : Bs) (e : Ending) (w' : World) : Option (List Int × List ParamP) → Prop
  | none => e = .returned (.bool false) ∧ GB w w' S ∧ Blk w' S 71 (stepA f bv iv (.slice none 0 0) (.slice none 0 0) first (ba nm) 0 false)
  | some (o, ps) => e = .returned (.bool true) ∧ GB w w' S ∧ ∃ oa oc pa pc, Blk w' S 71 (stepA f bv iv (.slice oa o.length oc) (.slice pa ps.length pc) first (ba nm) 0 false) ∧ RowS B w' (.slice oa o.length oc) o ∧ ParsAt w.heap.size w' (.slice pa ps.length pc) ps
/-- What is asked ahead of does. -/
structure DoesAt (B : Nat) (w : World) (S : Nat) (f : LayF) (bv iv : Value) (first : Bool) (nm : Bs) (s : List Int) : Prop where
  blk : Blk w S 71 (stepA f bv iv (.slice none 0 0) (.slice none 0 0) first (ba nm) 0 false)
  row : RowS B w iv s
  low : B ≤ S
  dim : fullS s = true
  name : nm.length ≤ 1000
set_option maxHeartbeats 8000000 in
set_option maxRecDepth 100000 in
theorem does_other {B S : Nat} {w : World} {I O Z T P C H : Int} {ba' ia : Option Addr} {bn bc ic : Nat} {first : Bool} {nm : Bs} {s : List Int} {K : Int} (h : DoesAt B w S ⟨K, I, O, Z, T, P, C, H⟩ (.slice ba' bn bc) (.slice ia s.length ic) first nm s) (n1 : K ≠ 1) (n2 : K ≠ 2) (n8 : K ≠ 8) (n9 : K ≠ 9) (n10 : K ≠ 10) (n11 : K ≠ 11) (n12 : K ≠ 12) :
    Calls Tryd.prog 67 #[.pointer (some ⟨S, 0, none⟩)] w fun e w' => DoesP B w S ⟨K, I, O, Z, T, P, C, H⟩ (.slice ba' bn bc) (.slice ia s.length ic) first nm e w' (some (s, [])) := by
  obtain ⟨hblk, hrow, hlow, hdim, hname⟩ := h
  obtain ⟨d1, d2, d3, d4⟩ := fullS_dims hdim
  have zS := hblk.lt
  have k0 := (hblk.cell 0).trans (show (stepA ⟨K, I, O, Z, T, P, C, H⟩ (.slice ba' bn bc) (.slice ia s.length ic) (.slice none 0 0) (.slice none 0 0) first (ba nm) 0 false)[0]? = some (.int .i64 K) from rfl)
  have k1 := (hblk.cell 1).trans (show (stepA ⟨K, I, O, Z, T, P, C, H⟩ (.slice ba' bn bc) (.slice ia s.length ic) (.slice none 0 0) (.slice none 0 0) first (ba nm) 0 false)[1]? = some (.int .i64 I) from rfl)
  have k2 := (hblk.cell 2).trans (show (stepA ⟨K, I, O, Z, T, P, C, H⟩ (.slice ba' bn bc) (.slice ia s.length ic) (.slice none 0 0) (.slice none 0 0) first (ba nm) 0 false)[2]? = some (.int .i64 O) from rfl)
  have k3 := (hblk.cell 3).trans (show (stepA ⟨K, I, O, Z, T, P, C, H⟩ (.slice ba' bn bc) (.slice ia s.length ic) (.slice none 0 0) (.slice none 0 0) first (ba nm) 0 false)[3]? = some (.int .i64 Z) from rfl)
  have k4 := (hblk.cell 4).trans (show (stepA ⟨K, I, O, Z, T, P, C, H⟩ (.slice ba' bn bc) (.slice ia s.length ic) (.slice none 0 0) (.slice none 0 0) first (ba nm) 0 false)[4]? = some (.int .i64 T) from rfl)
  have k5 := (hblk.cell 5).trans (show (stepA ⟨K, I, O, Z, T, P, C, H⟩ (.slice ba' bn bc) (.slice ia s.length ic) (.slice none 0 0) (.slice none 0 0) first (ba nm) 0 false)[5]? = some (.int .i64 P) from rfl)
  have k6 := (hblk.cell 6).trans (show (stepA ⟨K, I, O, Z, T, P, C, H⟩ (.slice ba' bn bc) (.slice ia s.length ic) (.slice none 0 0) (.slice none 0 0) first (ba nm) 0 false)[6]? = some (.int .i64 C) from rfl)
  have k7 := (hblk.cell 7).trans (show (stepA ⟨K, I, O, Z, T, P, C, H⟩ (.slice ba' bn bc) (.slice ia s.length ic) (.slice none 0 0) (.slice none 0 0) first (ba nm) 0 false)[7]? = some (.int .i64 H) from rfl)
  have k8 := (hblk.cell 8).trans (show (stepA ⟨K, I, O, Z, T, P, C, H⟩ (.slice ba' bn bc) (.slice ia s.length ic) (.slice none 0 0) (.slice none 0 0) first (ba nm) 0 false)[8]? = some (.slice ba' bn bc) from rfl)
  have k9 := (hblk.cell 9).trans (show (stepA ⟨K, I, O, Z, T, P, C, H⟩ (.slice ba' bn bc) (.slice ia s.length ic) (.slice none 0 0) (.slice none 0 0) first (ba nm) 0 false)[9]? = some (.slice ia s.length ic) from rfl)
  have f10 := hblk.frozen 10
  have k10 := (hblk.cell 10).trans (show (stepA ⟨K, I, O, Z, T, P, C, H⟩ (.slice ba' bn bc) (.slice ia s.length ic) (.slice none 0 0) (.slice none 0 0) first (ba nm) 0 false)[10]? = some (.slice none 0 0) from rfl)
  have HBLK := Lib.hid hblk
  have HROW := Lib.hid hrow
  have HD := Lib.hid d2
  have t1 : (K == 1) = false := by simp; omega
  have t2 : (K == 2) = false := by simp; omega
  have t8 : (K == 8) = false := by simp; omega
  have t9 : (K == 9) = false := by simp; omega
  have t10 : (K == 10) = false := by simp; omega
  have t11 : (K == 11) = false := by simp; omega
  have t12 : (K == 12) = false := by simp; omega
  clear n1 n2 n8 n9 n10 n11 n12
  clear hblk hrow hdim d2
  go_enter Tryd.func67, Tryd.ntmps67
  go_wp2_with fail
  go_cut [3, 4] (fun s3 s4 W => s3 = .pointer (some ⟨w.heap.size, 0, none⟩) ∧ s4 = .int .i64 (IntKind.i64.wrap ((s.length : Int) - 1)) ∧ Blk W w.heap.size 52 #[.int .i64 (K), .int .i64 I, .int .i64 O, .int .i64 Z, .int .i64 T, .int .i64 P, .int .i64 C, .int .i64 H, .slice ba' bn bc] ∧ Ext w W)
  case first => as_aux_lemma =>
    go_region_held3 (fun w' => w'.cell? ⟨S, 0, none⟩ = some (.int .i64 K) ∧ w'.cell? ⟨S, 1, none⟩ = some (.int .i64 I) ∧ w'.cell? ⟨S, 2, none⟩ = some (.int .i64 O) ∧ w'.cell? ⟨S, 3, none⟩ = some (.int .i64 Z) ∧ w'.cell? ⟨S, 4, none⟩ = some (.int .i64 T) ∧ w'.cell? ⟨S, 5, none⟩ = some (.int .i64 P) ∧ w'.cell? ⟨S, 6, none⟩ = some (.int .i64 C) ∧ w'.cell? ⟨S, 7, none⟩ = some (.int .i64 H) ∧ w'.cell? ⟨S, 8, none⟩ = some (.slice ba' bn bc) ∧ w'.cell? ⟨S, 9, none⟩ = some (.slice ia s.length ic) ∧ S < w'.heap.size ∧ Ext w w')
      (refine ⟨?_, ?_, ?_, ?_, ?_, ?_, ?_, ?_, ?_, ?_, ?_, ?_⟩ <;> first | (simp [go_sem, *]; done) | omega | (simp at z1; omega) | (simp at z2; omega) | (simp at z3; omega) | (simp at z4; omega) | exact (by repeat (first | with_reducible exact Ext.refl _ | with_reducible apply Ext.drew | with_reducible apply Ext.drewN | with_reducible apply Ext.alloc | ((with_reducible refine Ext.setCell ?_ ?_ _); rotate_left; focus (first | (simp; done) | (simp; omega) | omega)) | with_reducible refine Ext.tr ?_ xc | with_reducible assumption)))
      (fail)
    all_goals
      go_wp2_with fail
      go_meet
      exact ⟨rfl, rfl, (Blk.new _ _ _).drew, (by repeat (first | with_reducible exact Ext.refl _ | with_reducible apply Ext.drew | with_reducible apply Ext.drewN | with_reducible apply Ext.alloc | ((with_reducible refine Ext.setCell ?_ ?_ _); rotate_left; focus (first | (simp; done) | (simp; omega) | omega)) | with_reducible refine Ext.tr ?_ xc | with_reducible assumption))⟩
  obtain ⟨rfl, rfl, bl, xc⟩ := hcut
  have j9 := xc.cell k9
  have j10 := xc.cell k10
  have g10 := (HBLK.out.ext xc).frozen 10
  have l0 := (bl.cell 0).trans (show (#[.int .i64 (K), .int .i64 I, .int .i64 O, .int .i64 Z, .int .i64 T, .int .i64 P, .int .i64 C, .int .i64 H, .slice ba' bn bc] : Array Value)[0]? = some (.int .i64 (K)) from rfl)
  have l1 := (bl.cell 1).trans (show (#[.int .i64 (K), .int .i64 I, .int .i64 O, .int .i64 Z, .int .i64 T, .int .i64 P, .int .i64 C, .int .i64 H, .slice ba' bn bc] : Array Value)[1]? = some (.int .i64 I) from rfl)
  have l2 := (bl.cell 2).trans (show (#[.int .i64 (K), .int .i64 I, .int .i64 O, .int .i64 Z, .int .i64 T, .int .i64 P, .int .i64 C, .int .i64 H, .slice ba' bn bc] : Array Value)[2]? = some (.int .i64 O) from rfl)
  have zc : w.heap.size < wc.heap.size := bl.lt
  have zSc : S < wc.heap.size := by omega
  have BL := Lib.hid bl
  have XC := Lib.hid xc
  have HB := Lib.hid (HBLK.out.ext xc)
  have HR := Lib.hid (HROW.out.ext xc)
  have GX := Lib.hid ((GB.refl w S).ext xc)
  clear k0 k1 k2 k3 k4 k5 k6 k7 k8 k9 f10 k10 bl xc HROW
  go_wp2
  go_ret
  have G1 := GX.out.set 10 (.slice ia s.length ic)
  exact ⟨rfl, G1, ia, ic, none, 0, HB.out.set_ 10 _, HR.out.gb ((GB.refl _ S).set 10 _) HB.out (by decide) hlow, ParsAt.nil _ _⟩
set_option maxHeartbeats 8000000 in
set_option maxRecDepth 100000 in
theorem does_flatten {B S : Nat} {w : World} {I O Z T P C H : Int} {ba' ia : Option Addr} {bn bc ic : Nat} {first : Bool} {nm : Bs} {s : List Int} (h : DoesAt B w S ⟨10, I, O, Z, T, P, C, H⟩ (.slice ba' bn bc) (.slice ia s.length ic) first nm s) :
    Calls Tryd.prog 67 #[.pointer (some ⟨S, 0, none⟩)] w fun e w' => DoesP B w S ⟨10, I, O, Z, T, P, C, H⟩ (.slice ba' bn bc) (.slice ia s.length ic) first nm e w' (some ([pr s], [])) := by
  obtain ⟨hblk, hrow, hlow, hdim, hname⟩ := h
  obtain ⟨d1, d2, d3, d4⟩ := fullS_dims hdim
  have zS := hblk.lt
  have k0 := (hblk.cell 0).trans (show (stepA ⟨10, I, O, Z, T, P, C, H⟩ (.slice ba' bn bc) (.slice ia s.length ic) (.slice none 0 0) (.slice none 0 0) first (ba nm) 0 false)[0]? = some (.int .i64 10) from rfl)
  have k1 := (hblk.cell 1).trans (show (stepA ⟨10, I, O, Z, T, P, C, H⟩ (.slice ba' bn bc) (.slice ia s.length ic) (.slice none 0 0) (.slice none 0 0) first (ba nm) 0 false)[1]? = some (.int .i64 I) from rfl)
  have k2 := (hblk.cell 2).trans (show (stepA ⟨10, I, O, Z, T, P, C, H⟩ (.slice ba' bn bc) (.slice ia s.length ic) (.slice none 0 0) (.slice none 0 0) first (ba nm) 0 false)[2]? = some (.int .i64 O) from rfl)
  have k3 := (hblk.cell 3).trans (show (stepA ⟨10, I, O, Z, T, P, C, H⟩ (.slice ba' bn bc) (.slice ia s.length ic) (.slice none 0 0) (.slice none 0 0) first (ba nm) 0 false)[3]? = some (.int .i64 Z) from rfl)
  have k4 := (hblk.cell 4).trans (show (stepA ⟨10, I, O, Z, T, P, C, H⟩ (.slice ba' bn bc) (.slice ia s.length ic) (.slice none 0 0) (.slice none 0 0) first (ba nm) 0 false)[4]? = some (.int .i64 T) from rfl)
  have k5 := (hblk.cell 5).trans (show (stepA ⟨10, I, O, Z, T, P, C, H⟩ (.slice ba' bn bc) (.slice ia s.length ic) (.slice none 0 0) (.slice none 0 0) first (ba nm) 0 false)[5]? = some (.int .i64 P) from rfl)
  have k6 := (hblk.cell 6).trans (show (stepA ⟨10, I, O, Z, T, P, C, H⟩ (.slice ba' bn bc) (.slice ia s.length ic) (.slice none 0 0) (.slice none 0 0) first (ba nm) 0 false)[6]? = some (.int .i64 C) from rfl)
  have k7 := (hblk.cell 7).trans (show (stepA ⟨10, I, O, Z, T, P, C, H⟩ (.slice ba' bn bc) (.slice ia s.length ic) (.slice none 0 0) (.slice none 0 0) first (ba nm) 0 false)[7]? = some (.int .i64 H) from rfl)
  have k8 := (hblk.cell 8).trans (show (stepA ⟨10, I, O, Z, T, P, C, H⟩ (.slice ba' bn bc) (.slice ia s.length ic) (.slice none 0 0) (.slice none 0 0) first (ba nm) 0 false)[8]? = some (.slice ba' bn bc) from rfl)
  have k9 := (hblk.cell 9).trans (show (stepA ⟨10, I, O, Z, T, P, C, H⟩ (.slice ba' bn bc) (.slice ia s.length ic) (.slice none 0 0) (.slice none 0 0) first (ba nm) 0 false)[9]? = some (.slice ia s.length ic) from rfl)
  have f10 := hblk.frozen 10
  have k10 := (hblk.cell 10).trans (show (stepA ⟨10, I, O, Z, T, P, C, H⟩ (.slice ba' bn bc) (.slice ia s.length ic) (.slice none 0 0) (.slice none 0 0) first (ba nm) 0 false)[10]? = some (.slice none 0 0) from rfl)
  have HBLK := Lib.hid hblk
  have HROW := Lib.hid hrow
  have HD := Lib.hid d2
  clear hblk hrow hdim d2
  go_enter Tryd.func67, Tryd.ntmps67
  go_wp2_with fail
  go_cut [3, 4] (fun s3 s4 W => s3 = .pointer (some ⟨w.heap.size, 0, none⟩) ∧ s4 = .int .i64 (IntKind.i64.wrap ((s.length : Int) - 1)) ∧ Blk W w.heap.size 52 #[.int .i64 (10), .int .i64 I, .int .i64 O, .int .i64 Z, .int .i64 T, .int .i64 P, .int .i64 C, .int .i64 H, .slice ba' bn bc] ∧ Ext w W)
  case first => as_aux_lemma =>
    go_region_held3 (fun w' => w'.cell? ⟨S, 0, none⟩ = some (.int .i64 10) ∧ w'.cell? ⟨S, 1, none⟩ = some (.int .i64 I) ∧ w'.cell? ⟨S, 2, none⟩ = some (.int .i64 O) ∧ w'.cell? ⟨S, 3, none⟩ = some (.int .i64 Z) ∧ w'.cell? ⟨S, 4, none⟩ = some (.int .i64 T) ∧ w'.cell? ⟨S, 5, none⟩ = some (.int .i64 P) ∧ w'.cell? ⟨S, 6, none⟩ = some (.int .i64 C) ∧ w'.cell? ⟨S, 7, none⟩ = some (.int .i64 H) ∧ w'.cell? ⟨S, 8, none⟩ = some (.slice ba' bn bc) ∧ w'.cell? ⟨S, 9, none⟩ = some (.slice ia s.length ic) ∧ S < w'.heap.size ∧ Ext w w')
      (refine ⟨?_, ?_, ?_, ?_, ?_, ?_, ?_, ?_, ?_, ?_, ?_, ?_⟩ <;> first | (simp [go_sem, *]; done) | omega | (simp at z1; omega) | (simp at z2; omega) | (simp at z3; omega) | (simp at z4; omega) | exact (by repeat (first | with_reducible exact Ext.refl _ | with_reducible apply Ext.drew | with_reducible apply Ext.drewN | with_reducible apply Ext.alloc | ((with_reducible refine Ext.setCell ?_ ?_ _); rotate_left; focus (first | (simp; done) | (simp; omega) | omega)) | with_reducible refine Ext.tr ?_ xc | with_reducible assumption)))
      (fail)
    all_goals
      go_wp2_with fail
      go_meet
      exact ⟨rfl, rfl, (Blk.new _ _ _).drew, (by repeat (first | with_reducible exact Ext.refl _ | with_reducible apply Ext.drew | with_reducible apply Ext.drewN | with_reducible apply Ext.alloc | ((with_reducible refine Ext.setCell ?_ ?_ _); rotate_left; focus (first | (simp; done) | (simp; omega) | omega)) | with_reducible refine Ext.tr ?_ xc | with_reducible assumption))⟩
  obtain ⟨rfl, rfl, bl, xc⟩ := hcut
  have j9 := xc.cell k9
  have j10 := xc.cell k10
  have g10 := (HBLK.out.ext xc).frozen 10
  have l0 := (bl.cell 0).trans (show (#[.int .i64 (10), .int .i64 I, .int .i64 O, .int .i64 Z, .int .i64 T, .int .i64 P, .int .i64 C, .int .i64 H, .slice ba' bn bc] : Array Value)[0]? = some (.int .i64 (10)) from rfl)
  have l1 := (bl.cell 1).trans (show (#[.int .i64 (10), .int .i64 I, .int .i64 O, .int .i64 Z, .int .i64 T, .int .i64 P, .int .i64 C, .int .i64 H, .slice ba' bn bc] : Array Value)[1]? = some (.int .i64 I) from rfl)
  have l2 := (bl.cell 2).trans (show (#[.int .i64 (10), .int .i64 I, .int .i64 O, .int .i64 Z, .int .i64 T, .int .i64 P, .int .i64 C, .int .i64 H, .slice ba' bn bc] : Array Value)[2]? = some (.int .i64 O) from rfl)
  have zc : w.heap.size < wc.heap.size := bl.lt
  have zSc : S < wc.heap.size := by omega
  have BL := Lib.hid bl
  have XC := Lib.hid xc
  have HB := Lib.hid (HBLK.out.ext xc)
  have HR := Lib.hid (HROW.out.ext xc)
  have GX := Lib.hid ((GB.refl w S).ext xc)
  clear k0 k1 k2 k3 k4 k5 k6 k7 k8 k9 f10 k10 bl xc HROW
  go_wp2_with fail
  refine (size_any HR.out.1 ⟨by omega, HD.out⟩).mono ?_
  rintro e w' ⟨rfl, rfl⟩
  go_wp2
  go_ret
  exact ⟨rfl, (GX.out.set 10 _).ext (by repeat (first | with_reducible exact Ext.refl _ | with_reducible apply Ext.drew | with_reducible apply Ext.drewN | with_reducible apply Ext.alloc | ((with_reducible refine Ext.setCell ?_ ?_ _); rotate_left; focus (first | (simp; done) | (simp; omega) | omega)) | with_reducible refine Ext.tr ?_ xc | with_reducible assumption)), some ⟨wc.heap.size, 0, none⟩, 1, none, 0, (HB.out.set_ 10 _).alloc _, RowS.of_own (fresh_own 0 (by simp) (Nat.zero_le _) [pr s] (by simp [maxLen])), ParsAt.nil _ _⟩
end Go.Proofs.YtgokenbojppnhaaDoor
