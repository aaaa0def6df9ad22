/- SeedDraws: its parts, in the forms that the walk stores. ratchetref0.In, ratchetref6.Axes of lists that hold each number; ratchetlaw25.fan, heavy. An input of the laws of layer 25 as a block of its own. -/
import Derived.Test.YtkegefnpmijfiaaGreatQMask
import Derived.Test.YtkegefnpmijfiaaGreatQClonesG
import Derived.Test.YtkegefnpmijfiaaGreatQGens
import Derived.Test.YtkegefnpmijfiaaGreatQAskS
import Derived.Test.YtkegefnpmijfiaaGreatQNewS
namespace Go.Proofs.YtkegefnpmijfiaaGreat
open Go.RowKit
attribute [local go_sem ↓] Go.wp_at_zero Go.wp_at_succ
theorem num25_any (a : Int) (w : World) : Calls Tryz.prog 37 #[.int .i64 a] w fun e w' => e = .returned (.int .i64 a) ∧ w = w' := by
  go_enter Tryz.func37, Tryz.ntmps37
  go_wp2
  go_ret
  exact ⟨rfl, rfl⟩
/-- A generator's value is five numbers. -/
def Agg (v : Value) : Prop := ∃ a m c p q r s, v = .agg #[.slice a m c, .int .u64 p, .int .u64 q, .int .u64 r, .int .u64 s]
theorem RandAt.agg {w : World} {v : Value} {g : Gen} (h : RandAt w v g) : Agg v := by
  obtain ⟨a, m, c, p, q, r, s, rfl, -⟩ := h.form
  exact ⟨a, m, c, p, q, r, s, rfl⟩
section
variable {n : Nat} {g : Gen} {v : Value} {w : World}
theorem shuffle_agg (h : RandAt w v g) (hf : g.Fine) (n1 : 1 ≤ n) (n2 : n ≤ 30) :
    Calls Tryz.prog 35 #[v, .int .i64 n] w fun e w' => ∃ o a m c p q r s, e = .returned (.tuple #[o, .agg #[.slice a m c, .int .u64 p, .int .u64 q, .int .u64 r, .int .u64 s], .int .i64 0]) ∧ Ext w w' ∧ Hid (Row .i64 w' o (shufAt n g (n - 1))) ∧ Hid (RandAt w' (.agg #[.slice a m c, .int .u64 p, .int .u64 q, .int .u64 r, .int .u64 s]) (g.turn n (n - 1))) :=
  (shuffle_any h hf n1 (by omega) (fun j h1 h2 => few_of (by omega) (by omega))).mono (by
    rintro e w' ⟨o, v', rfl, x, r1, r2⟩
    obtain ⟨a, m, c, p, q, r, s, rfl⟩ := r2.agg
    exact ⟨o, a, m, c, p, q, r, s, rfl, x, Lib.hid r1, Lib.hid r2⟩)
end
def gen1 : Gen := ⟨[], ⟨1, 0, 0, 0⟩⟩
theorem gen1_fine : gen1.Fine := ⟨by decide, fun x h => by cases h⟩
theorem gen1_at (w : World) : RandAt w (.agg #[.slice none 0 0, .int .u64 1, .int .u64 0, .int .u64 0, .int .u64 0]) gen1 := ⟨none, 0, by simp [gen1, iv], Row.nil _ _⟩
theorem row_one (w : World) (k : IntKind) (x : Int) (t : TypeId) : Row k (w.alloc (.cells #[.int k x] t)) (.slice (some ⟨w.heap.size, 0, none⟩) 1 1) [x] :=
  ⟨_, _, rfl, Nat.le_refl _, by unfold maxLen; decide, fun _ => ⟨w.heap.size, 0, rfl, fun i hi => by
    have h0 : i = 0 := by simp at hi; omega
    subst h0
    exact (Blk.new w t #[.int k x]).cell 0⟩⟩
set_option maxRecDepth 100000 in
set_option maxHeartbeats 1000000 in
theorem wakes25 (w : World) : Calls Tryz.prog 45 #[] w fun e w' => e = .returned (.bool true) ∧ Ext w w' := by
  have SH : Hid (∀ W, Calls Tryz.prog 35 #[.agg #[.slice none 0 0, .int .u64 1, .int .u64 0, .int .u64 0, .int .u64 0], .int .i64 1] W fun e w' => ∃ o a m c p q r s, e = .returned (.tuple #[o, .agg #[.slice a m c, .int .u64 p, .int .u64 q, .int .u64 r, .int .u64 s], .int .i64 0]) ∧ Ext W w' ∧ Hid (Row .i64 w' o [0])) := Lib.hid fun W => (shuffle_agg (w := W) (n := 1) (gen1_at W) gen1_fine (by decide) (by decide)).mono (by
    rintro e w' ⟨o, a, m, c, p, q, r, s, rfl, x, r1, -⟩
    exact ⟨o, a, m, c, p, q, r, s, rfl, x, Lib.hid (by have := r1.out; rwa [show shufAt 1 gen1 (1 - 1) = [0] by simp [shufAt, iota]] at this)⟩)
  go_enter Tryz.func45, Tryz.ntmps45
  go_wp2_with fail
  refine (SH.out _).mono ?_
  rintro e v1 ⟨o, a, m, c, p, q, r, s, rfl, x1, r1⟩
  have E : Hid (∀ (W : World) (n : Nat), Ext v1 W → W.heap.size = n → Calls Tryz.prog 39 #[o, .slice (some ⟨n, 0, none⟩) 1 1] (W.alloc (.cells #[.int .i64 0] 3)) fun e w' => e = .returned (.bool true) ∧ Ext (W.alloc (.cells #[.int .i64 0] 3)) w') := Lib.hid (fun W n x hn => by
    subst hn
    exact (eqNumbers_any (r1.out.ext (x.alloc (.cells #[.int .i64 0] 3))) (row_one W .i64 0 3)).mono (by
      rintro e w' ⟨rfl, k, rfl⟩
      exact ⟨by simp, (Ext.refl _).drewN _⟩))
  clear SH
  go_wp2_with fail
  go_wp2_with fail; refine (num25_any _ _).mono ?_; rintro e w' ⟨rfl, rfl⟩
  go_wp2_with fail
  refine (E.out _ _ Ext.q (by simp)).mono ?_
  rintro e v2 ⟨rfl, x2⟩
  go_wp2
  go_ret
  exact ⟨rfl, Ext.q⟩
end Go.Proofs.YtkegefnpmijfiaaGreat
namespace Go.Proofs.YtkegefnpmijfiaaGreat
open Go.RowKit
attribute [local go_sem ↓] Go.wp_at_zero Go.wp_at_succ
theorem fan25_any (n : Int) (w : World) : Calls Tryz.prog 34 #[.int .i64 n] w fun e w' => e = .returned (.bool (fanB n)) ∧ w = w' := by
  unfold fanB
  by_cases h1 : 1 ≤ n
  · by_cases h2 : n ≤ 65536
    · have e : (decide (1 ≤ n) && decide (n ≤ 65536)) = true := by simp [h1, h2]
      rw [e]
      clear e
      go_enter Tryz.func34, Tryz.ntmps34
      go_wp2
      go_ret
      exact ⟨rfl, rfl⟩
    · have e : (decide (1 ≤ n) && decide (n ≤ 65536)) = false := by simp [h2]
      rw [e]
      clear e
      go_enter Tryz.func34, Tryz.ntmps34
      go_wp2
      go_ret
      exact ⟨rfl, rfl⟩
  · have e : (decide (1 ≤ n) && decide (n ≤ 65536)) = false := by simp [h1]
    rw [e]
    clear e
    go_enter Tryz.func34, Tryz.ntmps34
    go_wp2
    go_ret
    exact ⟨rfl, rfl⟩
/-- Some truth value is told. -/
def IsBool (e : Ending) : Prop := ∃ b : Bool, e = .returned (.bool b)
set_option maxHeartbeats 2000000 in
theorem heavy25_any {sv : Value} {ss : List Int} {w : World} (hs : Row .i64 w sv ss) (a0 : Option Addr) (m0 l0 : Nat) (p0 q0 r0 s0 In Out N P F : Int) (_hm : m0 ≤ 9223372036854775807) :
    Calls Tryz.prog 31 #[.agg #[.slice a0 m0 l0, .int .u64 p0, .int .u64 q0, .int .u64 r0, .int .u64 s0, sv, .int .i64 In, .int .i64 Out, .int .i64 N, .int .i64 P, .int .i64 F]] w fun e w' => IsBool e ∧ Ext w w' := by
  have MAY := Lib.hid (fun u (x : Ext w u) => may6_any (hs.ext x))
  have CNT := Lib.hid (fun u (x : Ext w u) (h : Dims ss) => count_any (hs.ext x) h)
  have SD := Lib.hid (fun (h : shp ss = true) => (shp_dims h).1)
  obtain ⟨sb, sc, rfl, hl⟩ := hs.form'
  generalize ss.length = n at *
  clear hs
  go_enter Tryz.func31, Tryz.ntmps31
  by_cases h1 : (5000 : Int) < (m0 : Int)
  · have d1 : decide ((5000 : Int) < (m0 : Int)) = true := by simpa using h1
    go_wp2
    go_ret
    exact ⟨⟨_, rfl⟩, Ext.q⟩
  have d1 : decide ((5000 : Int) < (m0 : Int)) = false := by simpa using h1
  by_cases h2 : (8 : Int) < (n : Int)
  · have d2 : decide ((8 : Int) < (n : Int)) = true := by simpa using h2
    go_wp2
    go_ret
    exact ⟨⟨_, rfl⟩, Ext.q⟩
  have d2 : decide ((8 : Int) < (n : Int)) = false := by simpa using h2
  cases h3 : shp ss
  · rw [h3] at MAY
    clear h3 SD CNT
    go_wp2_with fail; refine (MAY.out _ Ext.q).mono ?_; rintro e w' ⟨rfl, rfl⟩
    by_cases h5 : 300 < N
    · by_cases h6 : N ≤ 65536
      · have d5 : decide (300 < N) = true := by simpa using h5
        have d6 : decide (N ≤ 65536) = true := by simpa using h6
        go_wp2
        go_ret
        exact ⟨⟨_, rfl⟩, Ext.q⟩
      · have d5 : decide (300 < N) = true := by simpa using h5
        have d6 : decide (N ≤ 65536) = false := by simpa using h6
        go_wp2
        go_ret
        exact ⟨⟨_, rfl⟩, Ext.q⟩
    · have d5 : decide (300 < N) = false := by simpa using h5
      go_wp2
      go_ret
      exact ⟨⟨_, rfl⟩, Ext.q⟩
  · have CT := Lib.hid (fun u x => CNT.out u x (SD.out h3))
    rw [h3] at MAY
    clear h3 SD CNT
    generalize cnt ss = c at *
    go_wp2_with fail; refine (MAY.out _ Ext.q).mono ?_; rintro e w' ⟨rfl, rfl⟩
    go_wp2_with fail; refine (CT.out _ Ext.q).mono ?_; rintro e w' ⟨rfl, rfl⟩
    by_cases h4 : 200 < c
    · have d4 : decide (200 < c) = true := by simpa using h4
      go_wp2
      go_ret
      exact ⟨⟨_, rfl⟩, Ext.q⟩
    · have d4 : decide (200 < c) = false := by simpa using h4
      by_cases h5 : 300 < N
      · by_cases h6 : N ≤ 65536
        · have d5 : decide (300 < N) = true := by simpa using h5
          have d6 : decide (N ≤ 65536) = true := by simpa using h6
          go_wp2
          go_ret
          exact ⟨⟨_, rfl⟩, Ext.q⟩
        · have d5 : decide (300 < N) = true := by simpa using h5
          have d6 : decide (N ≤ 65536) = false := by simpa using h6
          go_wp2
          go_ret
          exact ⟨⟨_, rfl⟩, Ext.q⟩
      · have d5 : decide (300 < N) = false := by simpa using h5
        go_wp2
        go_ret
        exact ⟨⟨_, rfl⟩, Ext.q⟩
end Go.Proofs.YtkegefnpmijfiaaGreat
namespace Go.Proofs.YtkegefnpmijfiaaGreat
open Go.RowKit
theorem ask_blk {w : World} {b : Nat} {t : TypeId} {v0 v1 v2 v3 v4 v5 v6 v7 v8 v9 v10 : Value} (h : Blk w b t #[v0, v1, v2, v3, v4, v5, v6, v7, v8, v9, v10]) :
    w.cell? ⟨b, 0, none⟩ = some v0 ∧ w.cell? ⟨b, 1, none⟩ = some v1 ∧ w.cell? ⟨b, 2, none⟩ = some v2 ∧ w.cell? ⟨b, 3, none⟩ = some v3 ∧ w.cell? ⟨b, 4, none⟩ = some v4 ∧ w.cell? ⟨b, 5, none⟩ = some v5 ∧ w.cell? ⟨b, 6, none⟩ = some v6 ∧ w.cell? ⟨b, 7, none⟩ = some v7 ∧ w.cell? ⟨b, 8, none⟩ = some v8 ∧ w.cell? ⟨b, 9, none⟩ = some v9 ∧ w.cell? ⟨b, 10, none⟩ = some v10 :=
  ⟨h.cell 0, h.cell 1, h.cell 2, h.cell 3, h.cell 4, h.cell 5, h.cell 6, h.cell 7, h.cell 8, h.cell 9, h.cell 10⟩
end Go.Proofs.YtkegefnpmijfiaaGreat
