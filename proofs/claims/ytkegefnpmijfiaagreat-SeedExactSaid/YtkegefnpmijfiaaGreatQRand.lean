/- Package rng: a step of the generator. -/
import Derived.Test.YtkegefnpmijfiaaGreatQGbI
import Derived.Test.YtkegefnpmijfiaaGreatQPeriods
import Derived.Test.YtkegefnpmijfiaaGreatQLists
import Derived.Laws.BitsAllLaws
import Derived.Laws.ShiftsVar
import Derived.Laws.ShiftsVarLaws
import Derived.BigRegion
import Derived.Deep.DeepCutAuto
import Derived.Deep.RegionWith
namespace Go.Proofs.YtkegefnpmijfiaaGreat
open Go.RowKit
attribute [local go_sem ↓] Go.wp_at_zero Go.wp_at_succ
/-- A word of the generator's state, as a number. -/
def iv (x : BitVec 64) : Int := (x.toNat : Int)
theorem iv_nn (x : BitVec 64) : 0 ≤ iv x := by unfold iv; omega
theorem iv_lt (x : BitVec 64) : iv x < 18446744073709551616 := by unfold iv; have := x.isLt; omega
theorem iv_xor (x y : BitVec 64) : bits .xor .u64 (iv x) (iv y) = iv (x ^^^ y) := by unfold iv; rw [u64_xor_nat _ _ x.isLt y.isLt, BitVec.toNat_xor]
theorem iv_mul5 (x : BitVec 64) : IntKind.u64.wrap (iv x * 5) = iv (x * 5) := by
  rw [IntKind.wrap_u64]; unfold iv; rw [BitVec.toNat_mul]; simp
theorem iv_mul9 (x : BitVec 64) : IntKind.u64.wrap (iv x * 9) = iv (x * 9) := by
  rw [IntKind.wrap_u64]; unfold iv; rw [BitVec.toNat_mul]; simp
theorem iv_shl17 (x : BitVec 64) : IntKind.u64.wrap (iv x * 131072) = iv (x <<< 17) := by
  rw [IntKind.wrap_u64]; unfold iv; rw [BitVec.toNat_shiftLeft, Nat.shiftLeft_eq]; simp
theorem iv_rol7 (x : BitVec 64) : bits .or .u64 (IntKind.u64.wrap (iv x * 128)) (iv x / 144115188075855872) = iv (rol x 7) := by
  rw [IntKind.wrap_u64]; unfold iv rol
  have e1 : (x.toNat : Int) * 128 % 18446744073709551616 = ((x.toNat * 128 % 18446744073709551616 : Nat) : Int) := by omega
  have e2 : (x.toNat : Int) / 144115188075855872 = ((x.toNat / 144115188075855872 : Nat) : Int) := by omega
  rw [e1, e2, u64_or_nat _ _ (by omega) (by have := x.isLt; omega), BitVec.toNat_or, BitVec.toNat_shiftLeft, BitVec.toNat_ushiftRight, Nat.shiftLeft_eq, Nat.shiftRight_eq_div_pow]
theorem iv_rol45 (x : BitVec 64) : bits .or .u64 (IntKind.u64.wrap (iv x * 35184372088832)) (iv x / 524288) = iv (rol x 45) := by
  rw [IntKind.wrap_u64]; unfold iv rol
  have e1 : (x.toNat : Int) * 35184372088832 % 18446744073709551616 = ((x.toNat * 35184372088832 % 18446744073709551616 : Nat) : Int) := by omega
  have e2 : (x.toNat : Int) / 524288 = ((x.toNat / 524288 : Nat) : Int) := by omega
  rw [e1, e2, u64_or_nat _ _ (by omega) (by have := x.isLt; omega), BitVec.toNat_or, BitVec.toNat_shiftLeft, BitVec.toNat_ushiftRight, Nat.shiftLeft_eq, Nat.shiftRight_eq_div_pow]
theorem rot7_any (x : BitVec 64) (w : World) : Calls Tryz.prog 284 #[.int .u64 (iv x), .int .i64 7] w fun e w' => e = .returned (.int .u64 (iv (rol x 7))) ∧ w = w' := by
  have h0 := iv_nn x
  have h1 := iv_lt x
  have ea : bits .and .u64 7 63 = 7 := by decide
  have R := iv_rol7 x
  go_enter Tryz.func284, Tryz.ntmps284
  go_wp2
  go_ret
  exact ⟨rfl, rfl⟩
theorem rot45_any (x : BitVec 64) (w : World) : Calls Tryz.prog 284 #[.int .u64 (iv x), .int .i64 45] w fun e w' => e = .returned (.int .u64 (iv (rol x 45))) ∧ w = w' := by
  have h0 := iv_nn x
  have h1 := iv_lt x
  have ea : bits .and .u64 45 63 = 45 := by decide
  have R := iv_rol45 x
  go_enter Tryz.func284, Tryz.ntmps284
  go_wp2
  go_ret
  exact ⟨rfl, rfl⟩
/-- A generator: what is left of its script, its state. -/
structure Gen where
  script : List Int
  st : St
def Gen.step (g : Gen) : Int × Gen := match g.script with
  | x :: r => (x, ⟨r, g.st⟩)
  | [] => (iv g.st.out, ⟨[], g.st.next⟩)
/-- A generator, as a world holds it. -/
def RandAt (w : World) (v : Value) (g : Gen) : Prop :=
  ∃ a c, v = .agg #[.slice a g.script.length c, .int .u64 (iv g.st.a), .int .u64 (iv g.st.b), .int .u64 (iv g.st.c), .int .u64 (iv g.st.d)] ∧ Row .u64 w (.slice a g.script.length c) g.script
theorem RandAt.ext {w w' : World} {v : Value} {g : Gen} (h : RandAt w v g) (x : Ext w w') : RandAt w' v g := by
  obtain ⟨a, c, rfl, r⟩ := h
  exact ⟨a, c, rfl, r.ext x⟩
theorem row_tail {k : IntKind} {w : World} {b o c : Nat} {x : Int} {r : List Int} (h : Row k w (.slice (some ⟨b, o, none⟩) (r.length + 1) c) (x :: r)) (hc : 1 < c) : Row k w (.slice (some ⟨b, o + 1, none⟩) r.length (c - 1)) r := by
  obtain ⟨a', c', e, h1, h2, h3⟩ := h
  cases e
  simp only [List.length_cons] at h1 h3
  refine ⟨_, _, rfl, by omega, by omega, fun hn => ?_⟩
  obtain ⟨b', o', e, hcell⟩ := h3 (by simp)
  cases e
  refine ⟨b, o + 1, rfl, fun i hi => ?_⟩
  have := hcell (i + 1) (by omega)
  rw [show o + (i + 1) = o + 1 + i by omega] at this
  simpa using this
set_option maxHeartbeats 2000000 in
set_option maxRecDepth 100000 in
theorem step_script {v : Value} {g : Gen} {x : Int} {r : List Int} {w0 w : World} (h : RandAt w0 v g) (ho : OldAs w0 w) (hs : g.script = x :: r) :
    Calls Tryz.prog 244 #[v] w fun e w' => ∃ v', e = .returned (.tuple #[.int .u64 x, v']) ∧ Ext w w' ∧ RandAt w0 v' ⟨r, g.st⟩ := by
  obtain ⟨a, c, rfl, hr⟩ := h
  obtain ⟨sc, st⟩ := g
  simp only at hs hr
  subst hs
  simp only [List.length_cons] at hr ⊢
  have hr2 := hr
  obtain ⟨a', c', e, h1, h2, h3⟩ := hr
  obtain ⟨b, o, e2, hcell⟩ := h3 (by simp)
  cases e
  cases e2
  have h0 := hcell 0 (by simp)
  rw [← World.cell?_of_block (ho _ (cell_lt h0))] at h0
  simp only [List.getD_cons_zero, Nat.add_zero, List.length_cons] at h0 h1
  unfold maxLen at h2
  have hb := cell_lt h0
  simp only at hb
  clear h3 hcell ho
  rcases Nat.lt_or_ge 1 c with hc | hc
  · have RT := Lib.hid (row_tail hr2 hc)
    clear hr2
    have hc1 : (1 : Int) ≤ (c : Int) := by omega
    have hc2 : (0 : Int) < (c : Int) := by omega
    have hc3 : (c == 1) = false := by simp; omega
    have hn1 : (1 : Int) ≤ ((r.length + 1 : Nat) : Int) := by omega
    generalize hm : r.length = m at *
    go_enter Tryz.func244, Tryz.ntmps244
    go_wp2_with fail
    go_region
    go_wp2
    simp [bodyPost, results, Tryz.results244, go_sem, *]
    subst hm
    exact ⟨Ext.q, _, _, rfl, RT.out⟩
  · obtain rfl : c = 1 := by omega
    obtain rfl : r = [] := List.length_eq_zero_iff.1 (by omega)
    clear hr2
    go_enter Tryz.func244, Tryz.ntmps244
    go_wp2_with fail
    go_region
    go_wp2
    simp [bodyPost, results, Tryz.results244, go_sem, *]
    exact ⟨Ext.q, _, _, rfl, ⟨_, _, rfl, by simp, by unfold maxLen; omega, fun h => absurd rfl h⟩⟩
/-- A generator's five cells. -/
structure StepAt (w : World) (B : Nat) (v : Value) (p q r s : Int) : Prop where
  c0 : w.cell? ⟨B, 0, none⟩ = some v
  c1 : w.cell? ⟨B, 1, none⟩ = some (.int .u64 p)
  c2 : w.cell? ⟨B, 2, none⟩ = some (.int .u64 q)
  c3 : w.cell? ⟨B, 3, none⟩ = some (.int .u64 r)
  c4 : w.cell? ⟨B, 4, none⟩ = some (.int .u64 s)
  f0 : w.frozen? ⟨B, 0, none⟩ = false
  f1 : w.frozen? ⟨B, 1, none⟩ = false
  f2 : w.frozen? ⟨B, 2, none⟩ = false
  f3 : w.frozen? ⟨B, 3, none⟩ = false
  f4 : w.frozen? ⟨B, 4, none⟩ = false
set_option maxHeartbeats 1000000 in
set_option maxRecDepth 100000 in
theorem step_state {v : Value} {g : Gen} {w0 w : World} (h : RandAt w0 v g) (hs : g.script = []) :
    Calls Tryz.prog 244 #[v] w fun e w' => ∃ v', e = .returned (.tuple #[.int .u64 (iv g.st.out), v']) ∧ Ext w w' ∧ RandAt w0 v' ⟨[], g.st.next⟩ := by
  obtain ⟨a, c, rfl, hr⟩ := h
  obtain ⟨sc, st⟩ := g
  simp only at hs hr
  subst hs
  simp only [List.length_nil] at hr ⊢
  have HR := Lib.hid hr
  obtain ⟨A, B, C, D⟩ := st
  have m5 := iv_mul5 B
  have hout : St.out ⟨A, B, C, D⟩ = rol (B * 5) 7 * 9 := rfl
  have hnext : St.next ⟨A, B, C, D⟩ = ⟨A ^^^ (D ^^^ B), B ^^^ (C ^^^ A), C ^^^ A ^^^ B <<< 17, rol (D ^^^ B) 45⟩ := rfl
  have R1 := fun v => rot7_any (B * 5) v
  have m9 := iv_mul9 (rol (B * 5) 7)
  rw [hout, hnext]
  clear hout hnext
  generalize rol (B * 5) 7 * 9 = Q at m9 ⊢
  generalize rol (B * 5) 7 = Y at m9 R1
  generalize B * 5 = Z at m5 R1
  have R1 := Lib.hid R1
  have sh := iv_shl17 B
  have b0 := iv_nn B
  have b1 := iv_lt B
  have X1 := iv_xor C A
  have X2 := iv_xor D B
  have X3 := iv_xor B (C ^^^ A)
  have X4 := iv_xor A (D ^^^ B)
  have X5 := iv_xor (C ^^^ A) (B <<< 17)
  have R2 := fun v => rot45_any (D ^^^ B) v
  generalize C ^^^ A ^^^ B <<< 17 = C2 at X5 ⊢
  generalize A ^^^ (D ^^^ B) = A2 at X4 ⊢
  generalize B ^^^ (C ^^^ A) = B2 at X3 ⊢
  generalize C ^^^ A = C1 at X1 X3 X5
  generalize rol (D ^^^ B) 45 = D2 at R2 ⊢
  generalize D ^^^ B = D1 at X2 X4 R2
  generalize B <<< 17 = T at sh X5
  have R2 := Lib.hid R2
  clear hr
  go_enter Tryz.func244, Tryz.ntmps244
  go_wp2_with fail; refine (R1.out _).mono ?_; rintro e w' ⟨rfl, rfl⟩
  go_wp2_with fail
  go_region
  go_wp2_with fail
  go_region
  go_wp2_with fail
  go_region
  go_wp2_with fail
  go_region
  go_wp2_with fail
  go_region
  go_wp2_with fail
  go_cut [4, 5] (fun s4 s5 wx => s4 = .pointer (some ⟨w.heap.size, 1, none⟩) ∧ s5 = .int .u64 (iv Q) ∧ StepAt wx w.heap.size (.slice a 0 c) (iv A2) (iv B2) (iv C2) (iv D2) ∧ StepAt wx (w.heap.size + 1) (.slice none 0 0) 0 0 0 0 ∧ w.heap.size + 1 < wx.heap.size ∧ Ext w wx)
  case first =>
    clear m5 m9 sh X1 X2 X3 X4 X5 R1
    go_region_with (go_at_call 284; refine (R2.out _).mono ?_; rintro e w' ⟨rfl, rfl⟩)
    all_goals
      go_wp2_with fail
      go_meet
      exact ⟨rfl, rfl, ⟨by simp [go_sem], by simp [go_sem], by simp [go_sem], by simp [go_sem], by simp [go_sem], by simp [go_sem], by simp [go_sem], by simp [go_sem], by simp [go_sem], by simp [go_sem]⟩, ⟨by simp [go_sem], by simp [go_sem], by simp [go_sem], by simp [go_sem], by simp [go_sem], by simp [go_sem], by simp [go_sem], by simp [go_sem], by simp [go_sem], by simp [go_sem]⟩, by simp, Ext.q⟩
  case rest =>
    obtain ⟨rfl, rfl, ⟨a0, a1, a2, a3, a4, b0', b1', b2', b3', b4'⟩, ⟨c0, c1, c2, c3, c4, d0', d1', d2', d3', d4'⟩, hz, hext⟩ := hcut
    have hz0 : w.heap.size < wc.heap.size := by omega
    clear m5 m9 sh X1 X2 X3 X4 X5 R1 R2
    go_wp2_with fail
    go_region
    go_wp2
    simp [bodyPost, results, Tryz.results244, go_sem, *]
    exact ⟨Ext.q, _, _, rfl, HR.out⟩
theorem step_any {v : Value} {g : Gen} {w0 w : World} (h : RandAt w0 v g) (ho : OldAs w0 w) :
    Calls Tryz.prog 244 #[v] w fun e w' => ∃ v', e = .returned (.tuple #[.int .u64 g.step.1, v']) ∧ Ext w w' ∧ RandAt w0 v' g.step.2 := by
  obtain ⟨sc, st⟩ := g
  cases sc with
  | nil => exact step_state h rfl
  | cons x r => exact step_script h ho rfl
theorem RandAt.form {w : World} {v : Value} {g : Gen} (h : RandAt w v g) : ∃ a n c p q r s, v = .agg #[.slice a n c, .int .u64 p, .int .u64 q, .int .u64 r, .int .u64 s] ∧ n = g.script.length := by
  obtain ⟨a, c, rfl, -⟩ := h
  exact ⟨_, _, _, _, _, _, _, rfl, rfl⟩
end Go.Proofs.YtkegefnpmijfiaaGreat
