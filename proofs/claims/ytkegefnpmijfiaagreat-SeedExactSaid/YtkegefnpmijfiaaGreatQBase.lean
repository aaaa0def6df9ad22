/- General laws on worlds that grow, and on what a call leaves: no function of the program is named here. -/
import Derived.Test.YtkegefnpmijfiaaGreatRows
import Derived.WalkKit
import Derived.WalkSpells
import Derived.WalkLawsBesides
import Derived.Outline
import Derived.Below
import Derived.Lib.Hide
import Derived.BigQuiet
import Derived.Deep.QuietTactic
import Derived.Deep.RegionHeld3
import Derived.Deep.DrawnRows
namespace Go.Proofs.YtkegefnpmijfiaaGreat
open Go.RowKit
/-- w' is w with new blocks, and with stores into blocks that w does not have. -/
abbrev Ext (w w' : World) : Prop := Below w.heap.size w w'
theorem Ext.refl (w : World) : Ext w w := Below.refl _ _
theorem Ext.tr {a b c : World} (h : Ext a b) (k : Ext b c) : Ext a c := Below.trans h (Below.mono k h.size)
theorem Ext.alloc {a b : World} (h : Ext a b) (o : Obj) : Ext a (b.alloc o) := Below.alloc h h.size o
theorem Ext.drew {a b : World} (h : Ext a b) : Ext a b.drew := Below.drew h
theorem Ext.drewN {a b : World} (h : Ext a b) (n : Nat) : Ext a (b.drewN n) := ⟨h.os, h.tape, h.output, h.size, h.block⟩
theorem Ext.setCell {a b : World} (h : Ext a b) {p : Addr} (hp : a.heap.size ≤ p.block) (u : Value) : Ext a (b.setCell p u) := Below.setCell h hp u
theorem cell_lt {w : World} {p : Addr} {v : Value} (hp : w.cell? p = some v) : p.block < w.heap.size := by
  unfold World.cell? at hp
  rcases Nat.lt_or_ge p.block w.heap.size with hh | hh
  · exact hh
  · rw [Array.getElem?_eq_none hh] at hp; simp at hp
theorem Ext.cell {w w' : World} (h : Ext w w') {p : Addr} {v : Value} (hp : w.cell? p = some v) : w'.cell? p = some v := by
  rw [Below.cell h (cell_lt hp)]; exact hp
theorem Ext.frozen {w w' : World} (h : Ext w w') {p : Addr} {v : Value} (hp : w.cell? p = some v) (hf : w.frozen? p = false) : w'.frozen? p = false := by
  rw [Below.frozen h (cell_lt hp)]; exact hf
/-- All that a walk wants of an old world: cells and marks read as before. -/
theorem Ext.rules {w w' : World} (h : Ext w w') : (∀ b o, b < w.heap.size → w'.cell? ⟨b, o, none⟩ = w.cell? ⟨b, o, none⟩) ∧ (∀ b o, b < w.heap.size → w'.frozen? ⟨b, o, none⟩ = w.frozen? ⟨b, o, none⟩) :=
  ⟨fun b o hb => Below.cell h (p := ⟨b, o, none⟩) hb, fun b o hb => Below.frozen h (p := ⟨b, o, none⟩) hb⟩
/-- A cell behind a store, in a world of which only its cells are known. -/
theorem cell_set_same (w : World) (b o : Nat) (v : Value) (h : (w.cell? ⟨b, o, none⟩).isSome = true) : (w.setCell ⟨b, o, none⟩ v).cell? ⟨b, o, none⟩ = some v := by
  obtain ⟨u, hu⟩ := Option.isSome_iff_exists.1 h
  exact World.cell?_setCell_same w ⟨b, o, none⟩ v hu
theorem cell_set_far (w : World) (b o b' o' : Nat) (v : Value) (h : b ≠ b') : (w.setCell ⟨b, o, none⟩ v).cell? ⟨b', o', none⟩ = w.cell? ⟨b', o', none⟩ :=
  World.cell?_setCell_other w ⟨b, o, none⟩ ⟨b', o', none⟩ v (fun e => h (by injection e))
theorem cell_set_off (w : World) (b o o' : Nat) (v : Value) (h : o ≠ o') : (w.setCell ⟨b, o, none⟩ v).cell? ⟨b, o', none⟩ = w.cell? ⟨b, o', none⟩ :=
  World.cell?_setCell_other w ⟨b, o, none⟩ ⟨b, o', none⟩ v (fun e => h (by injection e))
attribute [go_sem] cell_set_same cell_set_far cell_set_off
/-- Numbers of blocks, as the walk meets them. -/
theorem lt_p1 {a b : Nat} (h : a < b) : (a < b + 1) = True := by simp; omega
theorem lt_p2 {a b : Nat} (h : a < b) : (a < b + 2) = True := by simp; omega
theorem lt_p3 {a b : Nat} (h : a < b) : (a < b + 3) = True := by simp; omega
theorem lt_p4 {a b : Nat} (h : a < b) : (a < b + 4) = True := by simp; omega
theorem lt_p11 {a b : Nat} (h : a < b) : (a < b + 1 + 1) = True := by simp; omega
theorem lt_p111 {a b : Nat} (h : a < b) : (a < b + 1 + 1 + 1) = True := by simp; omega
theorem lt_p1111 {a b : Nat} (h : a < b) : (a < b + 1 + 1 + 1 + 1) = True := by simp; omega
theorem ne_lt {a b : Nat} (h : a < b) : (a = b) = False := by simp; omega
theorem ne_gt {a b : Nat} (h : a < b) : (b = a) = False := by simp; omega
theorem ne_p1 {a b : Nat} (h : a < b) : (a = b + 1) = False := by simp; omega
theorem ne_p2 {a b : Nat} (h : a < b) : (a = b + 2) = False := by simp; omega
theorem ne_p3 {a b : Nat} (h : a < b) : (a = b + 3) = False := by simp; omega
theorem ne_p11 {a b : Nat} (h : a < b) : (a = b + 1 + 1) = False := by simp; omega
theorem ne_p111 {a b : Nat} (h : a < b) : (a = b + 1 + 1 + 1) = False := by simp; omega
theorem ne_q1 {a b : Nat} (h : a < b) : (b + 1 = a) = False := by simp; omega
theorem ne_q2 {a b : Nat} (h : a < b) : (b + 2 = a) = False := by simp; omega
theorem ne_q3 {a b : Nat} (h : a < b) : (b + 3 = a) = False := by simp; omega
theorem ne_q11 {a b : Nat} (h : a < b) : (b + 1 + 1 = a) = False := by simp; omega
theorem ne_q111 {a b : Nat} (h : a < b) : (b + 1 + 1 + 1 = a) = False := by simp; omega
attribute [go_sem] lt_p1 lt_p2 lt_p3 lt_p4 lt_p11 lt_p111 lt_p1111 ne_lt ne_gt ne_p1 ne_p2 ne_p3 ne_p11 ne_p111 ne_q1 ne_q2 ne_q3 ne_q11 ne_q111
theorem Ext.q {a b : World} (h : Ext a b := by repeat (first | (with_reducible first | exact Ext.refl _ | apply Ext.drew | apply Ext.drewN | apply Ext.alloc) | ((with_reducible refine Ext.setCell ?_ ?_ _); rotate_left; focus (first | (simp; done) | (simp; omega) | omega)) | (with_reducible first | refine Ext.tr ?_ x1 | refine Ext.tr ?_ x2 | refine Ext.tr ?_ x3 | refine Ext.tr ?_ x4 | refine Ext.tr ?_ x5 | refine Ext.tr ?_ x6 | refine Ext.tr ?_ x7 | refine Ext.tr ?_ x8 | refine Ext.tr ?_ x9 | refine Ext.tr ?_ xa | refine Ext.tr ?_ xb | refine Ext.tr ?_ xc | refine Ext.tr ?_ xd | refine Ext.tr ?_ xe | refine Ext.tr ?_ xf | refine Ext.tr ?_ xg | refine Ext.tr ?_ hx | refine Ext.tr ?_ hext | assumption))) : Ext a b := h
end Go.Proofs.YtkegefnpmijfiaaGreat
